/- A connection sends, is closed, aborted, goes on by a tick, is opened: on data. Conditions: lengths. -/
import Derived.Test.YtceohcbokbalhaaGreatPkAI
import Derived.Test.YtceohcbokbalhaaGreatAhTcpD
import Derived.Test.YtceohcbokbalhaaGreatAhTcpJ
namespace Go.Proofs.YtceohcbokbalhaaGreat
open Go.RowKit
set_option linter.unusedVariables false
set_option linter.unusedSimpArgs false
set_option maxRecDepth 100000
set_option maxHeartbeats 4000000
theorem dt_AhTcpK_CV {p : Prop} (h : p := by first | ((first | rfl | exact segs_gg rfl _ | exact parts_gg rfl _ | exact bytes_cells _ | exact parts_ll rfl _); done) | fail) : p := h
abbrev stA (y : Stp) : AV := .tup [.agg (cnG 1 2 3 y.c), .glist 4 7 (y.out.map (sgG 5)), .val (.int .i64 0)]
abbrev stH : List Own := [.perm, .uniq, .uniq, .uniq, .uniq, .uniq]
abbrev stNo (e : Int) : AV := .tup [noC, .val (.slice none 0 0), .val (.int .i64 e)]
def errB (c : Cn) (e : Int) : Int := bif cnB c then e else 1
abbrev spB (o p d : Nat) (c : Cn) : List AV := spL (gL o c.out) (.list p 2 (c.parts.map (prg d))) (.val (.slice none 0 0)) (.val (.slice none 0 0)) c
theorem talks0_l (c : Cn) : ACallL Tryz.prog 93 [.ptr 1 0 0] [.perm, spO (spB 2 3 4 c), .perm, .perm, .perm] (.val (.bool c.talks)) [.perm, spO (spB 2 3 4 c), .perm, .perm, .perm] := by
  unfold Cn.talks
  dsimp only [spB, spL]
  refine ACallL.of_ev mixed Tryz.func93 rfl (fun a w => Tryz.call93 a w) (congrArg Array.toList Tryz.results93) Tryz.ntmps93 fun B hB => ?_
  ((conv => whnf); (repeat' ((first | (with_reducible first | refine qif_n ?_ | refine qif_t ‹_› ?_ | refine qif_f ‹_› ?_) | ((with_reducible refine qif_t ?_ ?_); focus decide) | ((with_reducible refine qif_f ?_ ?_); focus decide) | (with_reducible refine And.intro (orderOk_i ?ho) ?_; (case ho => kernel_rfl)) | (with_reducible first | refine qif_i (fun _ => ?_) (fun _ => ?_) | refine frcVs_i ?_ | refine frcRs_i ?_)) <;> (conv => whnf))))
  all_goals
    (refine qConv.of hB [(1, 1)] [(0, 0), (2, 2), (3, 3), (4, 4)] [] (by rfl) ?_; focus ((conv => whnf); (repeat (refine And.intro ?_ ?_; rotate_left; (conv => whnf))); exact trivial; all_goals (try exact andT)))
    all_goals (try (refine RowsRen.one ?_; (repeat (refine Cells.cons ?_ ?_; focus (first | exact .val _ | exact Ren.gg rfl _ | exact Ren.pgl rfl rfl _ | fail))); exact Cells.nil))
  all_goals simp only [*, Bool.true_or, Bool.false_or]
theorem tcpAbort_l (c : Cn) (h : cnB c = true) : ACallL Tryz.prog 59 [.agg (cnR 0 c)] [.perm] (stA c.aborts) stH := by
  have px := pl_bytes c.out
  have py := pl_parts c.parts
  have hI := (cnB_iff c).1 h
  have cM := tcpMay_l c hI.cnLen
  rw [h] at cM
  have cO := tcpOwn_l c hI.cnLen
  have cA := abort_l c.start (by simp [Cn.start])
  unfold Cn.aborts
  obtain ⟨y, hy⟩ : ∃ r, c.start.abort = r := ⟨_, rfl⟩
  rw [hy] at cA ⊢
  have cD := stepDone_l y
  unfold Cn.start at cA
  dsimp only [cnR, cnL, cnG, spR, spN, spL, oL] at cM cO cA cD ⊢
  refine ACallL.of_ev mixed Tryz.func59 rfl (fun a w => Tryz.call59 a w) (congrArg Array.toList Tryz.results59) Tryz.ntmps59 fun B hB => ?_
  ((conv => whnf); (repeat' ((first | (with_reducible first | refine qif_n ?_ | refine qif_t ‹_› ?_ | refine qif_f ‹_› ?_) | ((with_reducible refine qif_t ?_ ?_); focus decide) | ((with_reducible refine qif_f ?_ ?_); focus decide) | (with_reducible refine And.intro (orderOk_i ?ho) ?_; (case ho => kernel_rfl)) | (with_reducible first | refine qif_i (fun _ => ?_) (fun _ => ?_) | refine frcVs_i ?_ | refine frcRs_i ?_) | ((with_reducible refine qCall.pure (cM) ?_ ?_ ?_ ?_); rotate_left 4; exact trivial; exact plT; exact plT)) <;> (conv => whnf))))
  ((with_reducible refine qCall.of (cO) [] [(0, 0)] [] [(1, 3), (2, 4), (3, 5)] [(3, .uniq), (4, .uniq), (5, .uniq)] (.agg (cnG 3 4 5 c)) ?hk ?_); (case hk => rfl); (conv => whnf); (repeat (refine And.intro ?_ ?_; exact sideT; (conv => whnf))); (fail_if_success (with_reducible first | refine And.intro (eqv_i ?_) ?_ | refine And.intro (ren_i ?_) ?_)))
  ((conv => whnf); (repeat' ((first | (with_reducible first | refine qif_n ?_ | refine qif_t ‹_› ?_ | refine qif_f ‹_› ?_) | ((with_reducible refine qif_t ?_ ?_); focus decide) | ((with_reducible refine qif_f ?_ ?_); focus decide) | (with_reducible refine And.intro (orderOk_i ?ho) ?_; (case ho => kernel_rfl)) | (with_reducible first | refine qif_i (fun _ => ?_) (fun _ => ?_) | refine frcVs_i ?_ | refine frcRs_i ?_)) <;> (conv => whnf))))
  ((with_reducible refine qCall.of (cA) [(1, 6)] [(0, 0), (2, 3), (3, 4), (4, 5), (5, 3)] [] [(8, 7), (9, 8)] [(6, spO (spN true 3 4 5 3 7 8 y)), (7, .uniq), (8, .uniq)] (.tup []) ?hk ?_); (case hk => rfl); (conv => whnf); (repeat (refine And.intro ?_ ?_; exact sideT; (conv => whnf))); (fail_if_success (with_reducible first | refine And.intro (eqv_i ?_) ?_ | refine And.intro (ren_i ?_) ?_)))
  ((conv => whnf); (repeat' ((first | (with_reducible first | refine qif_n ?_ | refine qif_t ‹_› ?_ | refine qif_f ‹_› ?_) | ((with_reducible refine qif_t ?_ ?_); focus decide) | ((with_reducible refine qif_f ?_ ?_); focus decide) | (with_reducible refine And.intro (orderOk_i ?ho) ?_; (case ho => kernel_rfl)) | (with_reducible first | refine qif_i (fun _ => ?_) (fun _ => ?_) | refine frcVs_i ?_ | refine frcRs_i ?_)) <;> (conv => whnf))))
  ((with_reducible refine qCall.of (cD) [(1, 6)] [(0, 0), (2, 3), (3, 4), (4, 5), (5, 3), (6, 7), (7, 8)] [] [] [(6, spO (spN true 3 4 5 3 7 8 y))] (.tup [.agg (cnG 3 4 5 y.c), .glist 7 7 (y.out.map (sgG 8)), .val (.int .i64 0)]) ?hk ?_); (case hk => rfl); (conv => whnf); (repeat (refine And.intro ?_ ?_; exact sideT; (conv => whnf))); (fail_if_success (with_reducible first | refine And.intro (eqv_i ?_) ?_ | refine And.intro (ren_i ?_) ?_)))
  ((conv => whnf); (repeat' ((first | (with_reducible first | refine qif_n ?_ | refine qif_t ‹_› ?_ | refine qif_f ‹_› ?_) | ((with_reducible refine qif_t ?_ ?_); focus decide) | ((with_reducible refine qif_f ?_ ?_); focus decide) | (with_reducible refine And.intro (orderOk_i ?ho) ?_; (case ho => kernel_rfl)) | (with_reducible first | refine qif_i (fun _ => ?_) (fun _ => ?_) | refine frcVs_i ?_ | refine frcRs_i ?_)) <;> (conv => whnf))))
  (refine qConv.of hB [] [(0, 0), (3, 1), (4, 2), (5, 3), (7, 4), (8, 5)] [] (by rfl) ?_; focus ((conv => whnf); (repeat (refine And.intro ?_ ?_; rotate_left; (conv => whnf))); exact trivial; all_goals (try exact andT)))
  all_goals (try exact dt_AhTcpK_CV)
theorem tcpClose_no (c : Cn) (hc : CnLen c) (h : cnB c = false ∨ c.closeE ≠ 0) : ACallL Tryz.prog 57 [.agg (cnR 0 c)] [.perm] (stNo (errB c c.closeE)) [.perm] := by
  have px := pl_bytes c.out
  have py := pl_parts c.parts
  have cM := tcpMay_l c hc
  have cO := tcpOwn_l c hc
  have cT := talks0_l c
  unfold errB
  obtain ⟨b1, h1⟩ : ∃ r, cnB c = r := ⟨_, rfl⟩
  rw [h1] at cM h ⊢
  unfold Cn.closeE at h ⊢
  obtain ⟨t, ht2⟩ : ∃ r, c.talks = r := ⟨_, rfl⟩
  rw [ht2] at cT h ⊢
  dsimp only [cnR, cnL, cnG, spB, spL, oL] at cM cO cT ⊢
  refine ACallL.of_ev mixed Tryz.func57 rfl (fun a w => Tryz.call57 a w) (congrArg Array.toList Tryz.results57) Tryz.ntmps57 fun B hB => ?_
  ((conv => whnf); (repeat' ((first | (with_reducible first | refine qif_n ?_ | refine qif_t ‹_› ?_ | refine qif_f ‹_› ?_) | ((with_reducible refine qif_t ?_ ?_); focus decide) | ((with_reducible refine qif_f ?_ ?_); focus decide) | (with_reducible refine And.intro (orderOk_i ?ho) ?_; (case ho => kernel_rfl)) | (with_reducible first | refine qif_i (fun _ => ?_) (fun _ => ?_) | refine frcVs_i ?_ | refine frcRs_i ?_)) <;> (conv => whnf))))
  ((with_reducible refine qCall.of (cO) [] [(0, 0)] [] [(1, 3), (2, 4), (3, 5)] [(3, .uniq), (4, .uniq), (5, .uniq)] (.agg (cnG 3 4 5 c)) ?hk ?_); (case hk => rfl); (conv => whnf); (repeat (refine And.intro ?_ ?_; exact sideT; (conv => whnf))); (fail_if_success (with_reducible first | refine And.intro (eqv_i ?_) ?_ | refine And.intro (ren_i ?_) ?_)))
  ((conv => whnf); (repeat' ((first | (with_reducible first | refine qif_n ?_ | refine qif_t ‹_› ?_ | refine qif_f ‹_› ?_) | ((with_reducible refine qif_t ?_ ?_); focus decide) | ((with_reducible refine qif_f ?_ ?_); focus decide) | (with_reducible refine And.intro (orderOk_i ?ho) ?_; (case ho => kernel_rfl)) | (with_reducible first | refine qif_i (fun _ => ?_) (fun _ => ?_) | refine frcVs_i ?_ | refine frcRs_i ?_) | ((with_reducible refine qCall.pure (cM) ?_ ?_ ?_ ?_); rotate_left 4; exact trivial; exact plT; exact plT) | (((with_reducible refine qCall.of (cT) [(1, 6)] [(0, 0), (2, 3), (3, 4), (4, 5)] [] [] [(6, spO (spB 3 4 5 c))] (.val (.bool t)) ?hk ?_); (case hk => rfl); (conv => whnf); (repeat (refine And.intro ?_ ?_; exact sideT; (conv => whnf))); (fail_if_success (with_reducible first | refine And.intro (eqv_i ?_) ?_ | refine And.intro (ren_i ?_) ?_))))) <;> (conv => whnf))))
  all_goals (try simp only [bne, Bool.not_eq_true', Bool.not_eq_false'] at *)
  all_goals (try simp only [*, cond_true, cond_false, Bool.true_or, Bool.or_true, Bool.false_or, Bool.or_false, Bool.true_and, Bool.false_and, Bool.and_true, Bool.and_false, Bool.not_true, Bool.not_false])
  all_goals first | ((refine qConv.of hB [] [(0, 0)] [] (by rfl) ?_; focus ((conv => whnf); (repeat (refine And.intro ?_ ?_; rotate_left; (conv => whnf))); exact trivial; all_goals (try exact andT)))) | (exfalso; simp_all; done)
theorem done0_l (c : Cn) : ACallL Tryz.prog 95 [.ptr 1 0 0] [.perm, spO (spB 2 3 4 c), .perm, .perm, .perm] (.tup [.agg (cnG 2 3 4 c), .val (.slice none 0 0), .val (.int .i64 0)]) [.perm, spO (spB 2 3 4 c), .perm, .perm, .perm] := by
  dsimp only [spB, spL, cnG, cnL]
  refine ACallL.of_ev mixed Tryz.func95 rfl (fun a w => Tryz.call95 a w) (congrArg Array.toList Tryz.results95) Tryz.ntmps95 fun B hB => ?_
  ((conv => whnf); (repeat' ((first | (with_reducible first | refine qif_n ?_ | refine qif_t ‹_› ?_ | refine qif_f ‹_› ?_) | ((with_reducible refine qif_t ?_ ?_); focus decide) | ((with_reducible refine qif_f ?_ ?_); focus decide) | (with_reducible refine And.intro (orderOk_i ?ho) ?_; (case ho => kernel_rfl)) | (with_reducible first | refine qif_i (fun _ => ?_) (fun _ => ?_) | refine frcVs_i ?_ | refine frcRs_i ?_)) <;> (conv => whnf))))
  all_goals
    (refine qConv.of hB [(1, 1)] [(0, 0), (2, 2), (3, 3), (4, 4)] [] (by rfl) ?_; focus ((conv => whnf); (repeat (refine And.intro ?_ ?_; rotate_left; (conv => whnf))); exact trivial; all_goals (try exact andT)))
    all_goals (try (first | exact bytes_cells _ | exact parts_gg rfl _ | (refine RowsRen.one ?_; (repeat (refine Cells.cons ?_ ?_; focus (first | exact .val _ | exact Ren.gg rfl _ | exact Ren.pgl rfl rfl _ | fail))); exact Cells.nil)))
theorem tcpClose_l (c : Cn) (h : cnB c = true) (he : c.closeE = 0) : ACallL Tryz.prog 57 [.agg (cnR 0 c)] [.perm] (stA c.closes) stH := by
  have px := pl_bytes c.out
  have py := pl_parts c.parts
  have hI := (cnB_iff c).1 h
  have cM := tcpMay_l c hI.cnLen
  have cO := tcpOwn_l c hI.cnLen
  rw [h] at cM
  obtain ⟨hcl, hts⟩ : c.closing = false ∧ (c.talks || c.st == 1) = true := by
    unfold Cn.closeE at he
    cases h1 : c.closing <;> cases h2 : (c.talks || c.st == 1) <;> rw [h1, h2] at he <;> simp at he ⊢
  have cT := talks0_l c
  have cT1 := talks0_l ({ c with closing := true } : Cn)
  have l14 : (({ c with closing := true } : Cn)).talks = c.talks := rfl
  rw [l14] at cT1
  unfold Cn.closes
  cases ht : c.talks with
  | true =>
    have cP := pump_l (({ c with closing := true } : Cn)).start ⟨hI.una, hI.nx, ((hI.pumpOk ht).s0), ((hI.pumpOk ht).s1), hI.len, hI.win⟩ (by simp [Cn.start])
    obtain ⟨y, hy⟩ : ∃ r, (({ c with closing := true } : Cn)).start.pump = r := ⟨_, rfl⟩
    rw [hy] at cP
    rw [cond_true, hy]
    have cD := stepDone_l y
    rw [ht] at cT cT1
    unfold Cn.start at cP
    dsimp only [cnR, cnL, cnG, spR, spN, spB, spL, oL] at cM cO cT cT1 cP cD ⊢
    refine ACallL.of_ev mixed Tryz.func57 rfl (fun a w => Tryz.call57 a w) (congrArg Array.toList Tryz.results57) Tryz.ntmps57 fun B hB => ?_
    ((conv => whnf); (repeat' ((first | (with_reducible first | refine qif_n ?_ | refine qif_t ‹_› ?_ | refine qif_f ‹_› ?_) | ((with_reducible refine qif_t ?_ ?_); focus decide) | ((with_reducible refine qif_f ?_ ?_); focus decide) | (with_reducible refine And.intro (orderOk_i ?ho) ?_; (case ho => kernel_rfl)) | (with_reducible first | refine qif_i (fun _ => ?_) (fun _ => ?_) | refine frcVs_i ?_ | refine frcRs_i ?_)) <;> (conv => whnf))))
    ((with_reducible refine qCall.of (cO) [] [(0, 0)] [] [(1, 3), (2, 4), (3, 5)] [(3, .uniq), (4, .uniq), (5, .uniq)] (.agg (cnG 3 4 5 c)) ?hk ?_); (case hk => rfl); (conv => whnf); (repeat (refine And.intro ?_ ?_; exact sideT; (conv => whnf))); (fail_if_success (with_reducible first | refine And.intro (eqv_i ?_) ?_ | refine And.intro (ren_i ?_) ?_)))
    ((conv => whnf); (repeat' ((first | (with_reducible first | refine qif_n ?_ | refine qif_t ‹_› ?_ | refine qif_f ‹_› ?_) | ((with_reducible refine qif_t ?_ ?_); focus decide) | ((with_reducible refine qif_f ?_ ?_); focus decide) | (with_reducible refine And.intro (orderOk_i ?ho) ?_; (case ho => kernel_rfl)) | (with_reducible first | refine qif_i (fun _ => ?_) (fun _ => ?_) | refine frcVs_i ?_ | refine frcRs_i ?_) | ((with_reducible refine qCall.pure (cM) ?_ ?_ ?_ ?_); rotate_left 4; exact trivial; exact plT; exact plT)) <;> (conv => whnf))))
    ((with_reducible refine qCall.of (cT) [(1, 6)] [(0, 0), (2, 3), (3, 4), (4, 5)] [] [] [(6, spO (spB 3 4 5 c))] (.val (.bool true)) ?hk ?_); (case hk => rfl); (conv => whnf); (repeat (refine And.intro ?_ ?_; exact sideT; (conv => whnf))); (fail_if_success (with_reducible first | refine And.intro (eqv_i ?_) ?_ | refine And.intro (ren_i ?_) ?_)))
    ((conv => whnf); (repeat' ((first | (with_reducible first | refine qif_n ?_ | refine qif_t ‹_› ?_ | refine qif_f ‹_› ?_) | ((with_reducible refine qif_t ?_ ?_); focus decide) | ((with_reducible refine qif_f ?_ ?_); focus decide) | (with_reducible refine And.intro (orderOk_i ?ho) ?_; (case ho => kernel_rfl)) | (with_reducible first | refine qif_i (fun _ => ?_) (fun _ => ?_) | refine frcVs_i ?_ | refine frcRs_i ?_)) <;> (conv => whnf))))
    ((with_reducible refine qCall.of (cT1) [(1, 6)] [(0, 0), (2, 3), (3, 4), (4, 5)] [] [] [(6, spO (spB 3 4 5 ({ c with closing := true } : Cn)))] (.val (.bool true)) ?hk ?_); (case hk => rfl); (conv => whnf); (repeat (refine And.intro ?_ ?_; exact sideT; (conv => whnf))); (fail_if_success (with_reducible first | refine And.intro (eqv_i ?_) ?_ | refine And.intro (ren_i ?_) ?_)))
    ((conv => whnf); (repeat' ((first | (with_reducible first | refine qif_n ?_ | refine qif_t ‹_› ?_ | refine qif_f ‹_› ?_) | ((with_reducible refine qif_t ?_ ?_); focus decide) | ((with_reducible refine qif_f ?_ ?_); focus decide) | (with_reducible refine And.intro (orderOk_i ?ho) ?_; (case ho => kernel_rfl)) | (with_reducible first | refine qif_i (fun _ => ?_) (fun _ => ?_) | refine frcVs_i ?_ | refine frcRs_i ?_)) <;> (conv => whnf))))
    ((with_reducible refine qCall.of (cP) [(1, 6)] [(0, 0), (2, 3), (3, 4), (4, 5), (5, 3)] [] [(8, 7), (9, 8)] [(6, spO (spN true 3 4 5 3 7 8 y)), (7, .uniq), (8, .uniq)] (.tup []) ?hk ?_); (case hk => rfl); (conv => whnf); (repeat (refine And.intro ?_ ?_; exact sideT; (conv => whnf))); (fail_if_success (with_reducible first | refine And.intro (eqv_i ?_) ?_ | refine And.intro (ren_i ?_) ?_)))
    ((conv => whnf); (repeat' ((first | (with_reducible first | refine qif_n ?_ | refine qif_t ‹_› ?_ | refine qif_f ‹_› ?_) | ((with_reducible refine qif_t ?_ ?_); focus decide) | ((with_reducible refine qif_f ?_ ?_); focus decide) | (with_reducible refine And.intro (orderOk_i ?ho) ?_; (case ho => kernel_rfl)) | (with_reducible first | refine qif_i (fun _ => ?_) (fun _ => ?_) | refine frcVs_i ?_ | refine frcRs_i ?_)) <;> (conv => whnf))))
    ((with_reducible refine qCall.of (cD) [(1, 6)] [(0, 0), (2, 3), (3, 4), (4, 5), (5, 3), (6, 7), (7, 8)] [] [] [(6, spO (spN true 3 4 5 3 7 8 y))] (.tup [.agg (cnG 3 4 5 y.c), .glist 7 7 (y.out.map (sgG 8)), .val (.int .i64 0)]) ?hk ?_); (case hk => rfl); (conv => whnf); (repeat (refine And.intro ?_ ?_; exact sideT; (conv => whnf))); (fail_if_success (with_reducible first | refine And.intro (eqv_i ?_) ?_ | refine And.intro (ren_i ?_) ?_)))
    ((conv => whnf); (repeat' ((first | (with_reducible first | refine qif_n ?_ | refine qif_t ‹_› ?_ | refine qif_f ‹_› ?_) | ((with_reducible refine qif_t ?_ ?_); focus decide) | ((with_reducible refine qif_f ?_ ?_); focus decide) | (with_reducible refine And.intro (orderOk_i ?ho) ?_; (case ho => kernel_rfl)) | (with_reducible first | refine qif_i (fun _ => ?_) (fun _ => ?_) | refine frcVs_i ?_ | refine frcRs_i ?_)) <;> (conv => whnf))))
    (refine qConv.of hB [] [(0, 0), (3, 1), (4, 2), (5, 3), (7, 4), (8, 5)] [] (by rfl) ?_; focus ((conv => whnf); (repeat (refine And.intro ?_ ?_; rotate_left; (conv => whnf))); exact trivial; all_goals (try exact andT)))
    all_goals (try exact dt_AhTcpK_CV)
  | false =>
    have h1 : (c.st == 1) = true := by rw [ht] at hts; simpa using hts
    have h1' : (c.st != 1) = false := by simpa using h1
    have cD := done0_l ({ c with closing := true } : Cn)
    rw [cond_false]
    rw [ht] at cT cT1
    unfold Cn.start
    dsimp only [cnR, cnL, cnG, spR, spN, spB, spL, oL] at cM cO cT cT1 cD ⊢
    refine ACallL.of_ev mixed Tryz.func57 rfl (fun a w => Tryz.call57 a w) (congrArg Array.toList Tryz.results57) Tryz.ntmps57 fun B hB => ?_
    ((conv => whnf); (repeat' ((first | (with_reducible first | refine qif_n ?_ | refine qif_t ‹_› ?_ | refine qif_f ‹_› ?_) | ((with_reducible refine qif_t ?_ ?_); focus decide) | ((with_reducible refine qif_f ?_ ?_); focus decide) | (with_reducible refine And.intro (orderOk_i ?ho) ?_; (case ho => kernel_rfl)) | (with_reducible first | refine qif_i (fun _ => ?_) (fun _ => ?_) | refine frcVs_i ?_ | refine frcRs_i ?_)) <;> (conv => whnf))))
    ((with_reducible refine qCall.of (cO) [] [(0, 0)] [] [(1, 3), (2, 4), (3, 5)] [(3, .uniq), (4, .uniq), (5, .uniq)] (.agg (cnG 3 4 5 c)) ?hk ?_); (case hk => rfl); (conv => whnf); (repeat (refine And.intro ?_ ?_; exact sideT; (conv => whnf))); (fail_if_success (with_reducible first | refine And.intro (eqv_i ?_) ?_ | refine And.intro (ren_i ?_) ?_)))
    ((conv => whnf); (repeat' ((first | (with_reducible first | refine qif_n ?_ | refine qif_t ‹_› ?_ | refine qif_f ‹_› ?_) | ((with_reducible refine qif_t ?_ ?_); focus decide) | ((with_reducible refine qif_f ?_ ?_); focus decide) | (with_reducible refine And.intro (orderOk_i ?ho) ?_; (case ho => kernel_rfl)) | (with_reducible first | refine qif_i (fun _ => ?_) (fun _ => ?_) | refine frcVs_i ?_ | refine frcRs_i ?_) | ((with_reducible refine qCall.pure (cM) ?_ ?_ ?_ ?_); rotate_left 4; exact trivial; exact plT; exact plT)) <;> (conv => whnf))))
    ((with_reducible refine qCall.of (cT) [(1, 6)] [(0, 0), (2, 3), (3, 4), (4, 5)] [] [] [(6, spO (spB 3 4 5 c))] (.val (.bool false)) ?hk ?_); (case hk => rfl); (conv => whnf); (repeat (refine And.intro ?_ ?_; exact sideT; (conv => whnf))); (fail_if_success (with_reducible first | refine And.intro (eqv_i ?_) ?_ | refine And.intro (ren_i ?_) ?_)))
    ((conv => whnf); (repeat' ((first | (with_reducible first | refine qif_n ?_ | refine qif_t ‹_› ?_ | refine qif_f ‹_› ?_) | ((with_reducible refine qif_t ?_ ?_); focus decide) | ((with_reducible refine qif_f ?_ ?_); focus decide) | (with_reducible refine And.intro (orderOk_i ?ho) ?_; (case ho => kernel_rfl)) | (with_reducible first | refine qif_i (fun _ => ?_) (fun _ => ?_) | refine frcVs_i ?_ | refine frcRs_i ?_)) <;> (conv => whnf))))
    ((with_reducible refine qCall.of (cT1) [(1, 6)] [(0, 0), (2, 3), (3, 4), (4, 5)] [] [] [(6, spO (spB 3 4 5 ({ c with closing := true } : Cn)))] (.val (.bool false)) ?hk ?_); (case hk => rfl); (conv => whnf); (repeat (refine And.intro ?_ ?_; exact sideT; (conv => whnf))); (fail_if_success (with_reducible first | refine And.intro (eqv_i ?_) ?_ | refine And.intro (ren_i ?_) ?_)))
    ((conv => whnf); (repeat' ((first | (with_reducible first | refine qif_n ?_ | refine qif_t ‹_› ?_ | refine qif_f ‹_› ?_) | ((with_reducible refine qif_t ?_ ?_); focus decide) | ((with_reducible refine qif_f ?_ ?_); focus decide) | (with_reducible refine And.intro (orderOk_i ?ho) ?_; (case ho => kernel_rfl)) | (with_reducible first | refine qif_i (fun _ => ?_) (fun _ => ?_) | refine frcVs_i ?_ | refine frcRs_i ?_)) <;> (conv => whnf))))
    ((with_reducible refine qCall.of (cD) [(1, 6)] [(0, 0), (2, 3), (3, 4), (4, 5)] [] [] [(6, spO (spB 3 4 5 ({ c with closing := true } : Cn)))] (.tup [.agg (cnG 3 4 5 ({ c with closing := true } : Cn)), .val (.slice none 0 0), .val (.int .i64 0)]) ?hk ?_); (case hk => rfl); (conv => whnf); (repeat (refine And.intro ?_ ?_; exact sideT; (conv => whnf))); (fail_if_success (with_reducible first | refine And.intro (eqv_i ?_) ?_ | refine And.intro (ren_i ?_) ?_)))
    ((conv => whnf); (repeat' ((first | (with_reducible first | refine qif_n ?_ | refine qif_t ‹_› ?_ | refine qif_f ‹_› ?_) | ((with_reducible refine qif_t ?_ ?_); focus decide) | ((with_reducible refine qif_f ?_ ?_); focus decide) | (with_reducible refine And.intro (orderOk_i ?ho) ?_; (case ho => kernel_rfl)) | (with_reducible first | refine qif_i (fun _ => ?_) (fun _ => ?_) | refine frcVs_i ?_ | refine frcRs_i ?_)) <;> (conv => whnf))))
    (refine qConv.of hB [] [(0, 0), (3, 1), (4, 2), (5, 3)] [] (by rfl) ?_; focus ((conv => whnf); (repeat (refine And.intro ?_ ?_; rotate_left; (conv => whnf))); exact trivial; all_goals (try exact andT)))
    all_goals (try exact dt_AhTcpK_CV)
theorem tcpSend_no (c : Cn) (xs : List Int) (hc : CnLen c) (hx : xs.length ≤ 100000000) (h : cnB c = false ∨ c.sendE xs ≠ 0) : ACallL Tryz.prog 55 [.agg (cnR 0 c), bL 0 xs] [.perm] (stNo (errB c (c.sendE xs))) [.perm] := by
  have px := pl_bytes c.out
  have py := pl_parts c.parts
  have pz := pl_bytes xs
  have cM := tcpMay_l c hc
  have cO := tcpOwn_l c hc
  have cT := talks0_l c
  have ho := hc.1
  have w := IntWalk.i64_in (8192 - (c.out.length : Int)) (by omega)
  unfold errB
  obtain ⟨b1, h1⟩ : ∃ r, cnB c = r := ⟨_, rfl⟩
  rw [h1] at cM h ⊢
  unfold Cn.sendE at h ⊢
  obtain ⟨t, ht2⟩ : ∃ r, c.talks = r := ⟨_, rfl⟩
  rw [ht2] at cT h ⊢
  rw [← w] at h ⊢
  clear w ho
  dsimp only [cnR, cnL, cnG, spB, spL, oL] at cM cO cT ⊢
  refine ACallL.of_ev mixed Tryz.func55 rfl (fun a w => Tryz.call55 a w) (congrArg Array.toList Tryz.results55) Tryz.ntmps55 fun B hB => ?_
  ((conv => whnf); (repeat' ((first | (with_reducible first | refine qif_n ?_ | refine qif_t ‹_› ?_ | refine qif_f ‹_› ?_) | ((with_reducible refine qif_t ?_ ?_); focus decide) | ((with_reducible refine qif_f ?_ ?_); focus decide) | (with_reducible refine And.intro (orderOk_i ?ho) ?_; (case ho => kernel_rfl)) | (with_reducible first | refine qif_i (fun _ => ?_) (fun _ => ?_) | refine frcVs_i ?_ | refine frcRs_i ?_)) <;> (conv => whnf))))
  ((with_reducible refine qCall.of (cO) [] [(0, 0)] [] [(1, 3), (2, 4), (3, 5)] [(3, .uniq), (4, .uniq), (5, .uniq)] (.agg (cnG 3 4 5 c)) ?hk ?_); (case hk => rfl); (conv => whnf); (repeat (refine And.intro ?_ ?_; exact sideT; (conv => whnf))); (fail_if_success (with_reducible first | refine And.intro (eqv_i ?_) ?_ | refine And.intro (ren_i ?_) ?_)))
  ((conv => whnf); (repeat' ((first | (with_reducible first | refine qif_n ?_ | refine qif_t ‹_› ?_ | refine qif_f ‹_› ?_) | ((with_reducible refine qif_t ?_ ?_); focus decide) | ((with_reducible refine qif_f ?_ ?_); focus decide) | (with_reducible refine And.intro (orderOk_i ?ho) ?_; (case ho => kernel_rfl)) | (with_reducible first | refine qif_i (fun _ => ?_) (fun _ => ?_) | refine frcVs_i ?_ | refine frcRs_i ?_) | ((with_reducible refine qCall.pure (cM) ?_ ?_ ?_ ?_); rotate_left 4; exact trivial; exact plT; exact plT) | (((with_reducible refine qCall.of (cT) [(1, 6)] [(0, 0), (2, 3), (3, 4), (4, 5)] [] [] [(6, spO (spB 3 4 5 c))] (.val (.bool t)) ?hk ?_); (case hk => rfl); (conv => whnf); (repeat (refine And.intro ?_ ?_; exact sideT; (conv => whnf))); (fail_if_success (with_reducible first | refine And.intro (eqv_i ?_) ?_ | refine And.intro (ren_i ?_) ?_))))) <;> (conv => whnf))))
  all_goals (try simp only [bne, Bool.not_eq_true', Bool.not_eq_false', List.length_map] at *)
  all_goals (try simp only [*, cond_true, cond_false, Bool.true_or, Bool.or_true, Bool.false_or, Bool.or_false, Bool.true_and, Bool.false_and, Bool.and_true, Bool.and_false, Bool.not_true, Bool.not_false])
  all_goals first | ((refine qConv.of hB [] [(0, 0)] [] (by rfl) ?_; focus ((conv => whnf); (repeat (refine And.intro ?_ ?_; rotate_left; (conv => whnf))); exact trivial; all_goals (try exact andT)))) | (exfalso; simp_all; done)
theorem tcpSend_l (c : Cn) (xs : List Int) (h : cnB c = true) (he : c.sendE xs = 0) : ACallL Tryz.prog 55 [.agg (cnR 0 c), bL 0 xs] [.perm] (stA (c.sends xs)) stH := by
  have px := pl_bytes c.out
  have py := pl_parts c.parts
  have pz := pl_bytes xs
  have hI := (cnB_iff c).1 h
  have cM := tcpMay_l c hI.cnLen
  have cO := tcpOwn_l c hI.cnLen
  have hlen := hI.len
  have lo : (c.out.map bR).length = c.out.length := by simp
  have lx : (xs.map bR).length = xs.length := by simp
  rw [h] at cM
  obtain ⟨ht, hcl, hle⟩ : c.talks = true ∧ c.closing = false ∧ ¬ (8192 - (c.out.length : Int) < (xs.length : Int)) := by
    unfold Cn.sendE at he
    cases h1 : c.closing <;> cases h2 : c.talks <;> rw [h1, h2] at he <;> simp at he ⊢
    cases h3 : decide (8192 - (c.out.length : Int) < (xs.length : Int)) with
    | true => rw [h3] at he; simp at he
    | false => simpa using h3
  have w := IntWalk.i64_in (8192 - (c.out.length : Int)) (by omega)
  have hle' : decide (IntKind.i64.wrap (8192 - ((c.out.map bR).length : Int)) < ((xs.map bR).length : Int)) = false := by rw [lo, lx, w, decide_eq_false_iff_not]; exact hle
  have cT := talks0_l c
  rw [ht] at cT
  unfold Cn.sends
  have hlx : (c.out ++ xs).length ≤ 8192 := by simp; omega
  have hP := hI.pumpOk ht
  have cP := pump_l (({ c with out := c.out ++ xs } : Cn)).start ⟨hI.una, hI.nx, hP.s0, by have := hP.s1; show wdiff c.nx c.una ≤ ((c.out ++ xs).length : Int); unfold Cn.sent at this; simp; omega, hlx, hI.win⟩ (by simp [Cn.start])
  obtain ⟨y, hy⟩ : ∃ r, (({ c with out := c.out ++ xs } : Cn)).start.pump = r := ⟨_, rfl⟩
  rw [hy] at cP ⊢
  have cD := stepDone_l y
  unfold Cn.start at cP
  dsimp only [cnR, cnL, cnG, spR, spN, spB, spL, oL] at cM cO cT cP cD ⊢
  have hmap : c.out.map bR ++ xs.map bR = (c.out ++ xs).map bR := by simp
  refine ACallL.of_ev mixed Tryz.func55 rfl (fun a w => Tryz.call55 a w) (congrArg Array.toList Tryz.results55) Tryz.ntmps55 fun B hB => ?_
  ((conv => whnf); (repeat' ((first | (with_reducible first | refine qif_n ?_ | refine qif_t ‹_› ?_ | refine qif_f ‹_› ?_) | ((with_reducible refine qif_t ?_ ?_); focus decide) | ((with_reducible refine qif_f ?_ ?_); focus decide) | (with_reducible refine And.intro (orderOk_i ?ho) ?_; (case ho => kernel_rfl)) | (with_reducible first | refine qif_i (fun _ => ?_) (fun _ => ?_) | refine frcVs_i ?_ | refine frcRs_i ?_)) <;> (conv => whnf))))
  ((with_reducible refine qCall.of (cO) [] [(0, 0)] [] [(1, 3), (2, 4), (3, 5)] [(3, .uniq), (4, .uniq), (5, .uniq)] (.agg (cnG 3 4 5 c)) ?hk ?_); (case hk => rfl); (conv => whnf); (repeat (refine And.intro ?_ ?_; exact sideT; (conv => whnf))); (fail_if_success (with_reducible first | refine And.intro (eqv_i ?_) ?_ | refine And.intro (ren_i ?_) ?_)))
  ((conv => whnf); (repeat' ((first | (with_reducible first | refine qif_n ?_ | refine qif_t ‹_› ?_ | refine qif_f ‹_› ?_) | ((with_reducible refine qif_t ?_ ?_); focus decide) | ((with_reducible refine qif_f ?_ ?_); focus decide) | (with_reducible refine And.intro (orderOk_i ?ho) ?_; (case ho => kernel_rfl)) | (with_reducible first | refine qif_i (fun _ => ?_) (fun _ => ?_) | refine frcVs_i ?_ | refine frcRs_i ?_) | ((with_reducible refine qCall.pure (cM) ?_ ?_ ?_ ?_); rotate_left 4; exact trivial; exact plT; exact plT)) <;> (conv => whnf))))
  ((with_reducible refine qCall.of (cT) [(1, 6)] [(0, 0), (2, 3), (3, 4), (4, 5)] [] [] [(6, spO (spB 3 4 5 c))] (.val (.bool true)) ?hk ?_); (case hk => rfl); (conv => whnf); (repeat (refine And.intro ?_ ?_; exact sideT; (conv => whnf))); (fail_if_success (with_reducible first | refine And.intro (eqv_i ?_) ?_ | refine And.intro (ren_i ?_) ?_)))
  ((conv => whnf); (repeat' ((first | (with_reducible first | refine qif_n ?_ | refine qif_t ‹_› ?_ | refine qif_f ‹_› ?_) | ((with_reducible refine qif_t ?_ ?_); focus decide) | ((with_reducible refine qif_f ?_ ?_); focus decide) | (with_reducible refine And.intro (orderOk_i ?ho) ?_; (case ho => kernel_rfl)) | (with_reducible first | refine qif_i (fun _ => ?_) (fun _ => ?_) | refine frcVs_i ?_ | refine frcRs_i ?_) | (refine qCase_i (apG' (nb := 1) rfl rfl rfl rfl rfl rfl rfl rfl rfl rfl (by decide) (ones_bytes xs) (by rw [lo, lx]; omega) hmap) ?_)) <;> (conv => whnf))))
  ((with_reducible refine qCall.of (cP) [(1, 6)] [(0, 0), (2, 7), (3, 4), (4, 5), (5, 7)] [] [(8, 8), (9, 9)] [(6, spO (spN true 7 4 5 7 8 9 y)), (8, .uniq), (9, .uniq)] (.tup []) ?hk ?_); (case hk => rfl); (conv => whnf); (repeat (refine And.intro ?_ ?_; exact sideT; (conv => whnf))); (fail_if_success (with_reducible first | refine And.intro (eqv_i ?_) ?_ | refine And.intro (ren_i ?_) ?_)))
  ((conv => whnf); (repeat' ((first | (with_reducible first | refine qif_n ?_ | refine qif_t ‹_› ?_ | refine qif_f ‹_› ?_) | ((with_reducible refine qif_t ?_ ?_); focus decide) | ((with_reducible refine qif_f ?_ ?_); focus decide) | (with_reducible refine And.intro (orderOk_i ?ho) ?_; (case ho => kernel_rfl)) | (with_reducible first | refine qif_i (fun _ => ?_) (fun _ => ?_) | refine frcVs_i ?_ | refine frcRs_i ?_)) <;> (conv => whnf))))
  ((with_reducible refine qCall.of (cD) [(1, 6)] [(0, 0), (2, 7), (3, 4), (4, 5), (5, 7), (6, 8), (7, 9)] [] [] [(6, spO (spN true 7 4 5 7 8 9 y))] (.tup [.agg (cnG 7 4 5 y.c), .glist 8 7 (y.out.map (sgG 9)), .val (.int .i64 0)]) ?hk ?_); (case hk => rfl); (conv => whnf); (repeat (refine And.intro ?_ ?_; exact sideT; (conv => whnf))); (fail_if_success (with_reducible first | refine And.intro (eqv_i ?_) ?_ | refine And.intro (ren_i ?_) ?_)))
  ((conv => whnf); (repeat' ((first | (with_reducible first | refine qif_n ?_ | refine qif_t ‹_› ?_ | refine qif_f ‹_› ?_) | ((with_reducible refine qif_t ?_ ?_); focus decide) | ((with_reducible refine qif_f ?_ ?_); focus decide) | (with_reducible refine And.intro (orderOk_i ?ho) ?_; (case ho => kernel_rfl)) | (with_reducible first | refine qif_i (fun _ => ?_) (fun _ => ?_) | refine frcVs_i ?_ | refine frcRs_i ?_)) <;> (conv => whnf))))
  (refine qConv.of hB [] [(0, 0), (7, 1), (4, 2), (5, 3), (8, 4), (9, 5)] [] (by rfl) ?_; focus ((conv => whnf); (repeat (refine And.intro ?_ ?_; rotate_left; (conv => whnf))); exact trivial; all_goals (try exact andT)))
  all_goals (try exact dt_AhTcpK_CV)
end Go.Proofs.YtceohcbokbalhaaGreat

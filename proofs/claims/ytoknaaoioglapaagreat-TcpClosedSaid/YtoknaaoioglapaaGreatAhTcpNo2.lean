/- An act that is refused, on both, the connection in memory of its own: on data. Conditions: lengths. -/
import Derived.Test.YtoknaaoioglapaaGreatPkAN
namespace Go.Proofs.YtoknaaoioglapaaGreat
open Go.RowKit
set_option linter.unusedVariables false
set_option linter.unusedSimpArgs false
set_option maxRecDepth 100000
set_option maxHeartbeats 4000000
theorem dt_AhTcpNo2_ROWN {p : Prop} (h : p := by first | ((first | rfl | exact bytes_cells _ | exact parts_ll rfl _ | exact parts_gg rfl _ | (refine RowsRen.one ?_; (repeat (refine Cells.cons ?_ ?_; focus (first | exact .val _ | exact Ren.gg rfl _ | exact Ren.ll rfl _ | exact Ren.pll rfl rfl _ | exact Ren.pgl rfl rfl _ | fail))); exact Cells.nil)); done) | fail) : p := h
theorem stepNo2_l (c : Cn) (a : Act) (hc : CnLen c) (ho : c.out.length ≤ 30000) (ha : a.s.data.length ≤ 30000) (hb : a.b.length ≤ 30000) (he : stepE c a ≠ 0) :
    ACallL Tryz.prog 19 [.agg (cnL (bL 1 c.out) (.list 2 2 (c.parts.map (prt 3))) c), .agg (acR 0 a)] [.perm, .perm, .perm, .perm] (.tup [.agg (cnL (bL 1 c.out) (.list 2 2 (c.parts.map (prt 3))) c), .val (.bool true)]) [.perm, .perm, .perm, .perm] := by
  have px := pl_bytes c.out
  have pz := pl_bytes a.s.data
  have pb := pl_bytes a.b
  have cC := copyConn_l c hc
  have cM := refConn_l c hc
  have cE := eqConn_l c c hc
  rw [decide_eq_true (rfl : c = c)] at cE
  have cY := copyBytes_l a.b (by omega)
  have cS := copySeg_l (fitS c a) (by rw [fitS_data]; omega)
  have cF := fit_l c a hc ha
  have cEq := eqSeg_l (fitS c a) (fitS c a) (by rw [fitS_data]; omega)
  rw [decide_eq_true (rfl : fitS c a = fitS c a)] at cEq
  have spB := spBytes_l a.b (by omega)
  have spS := spBytes_l (fitS c a).data (by rw [fitS_data]; omega)
  have pzf := pl_bytes (fitS c a).data
  have bk := bring_bd a.dw 14 (by decide)
  have cW := bring_l a.dw 14 (by decide) (by decide)
  unfold stepE at he
  obtain ⟨k, hk⟩ : ∃ k, bring a.dw 14 = k := ⟨_, rfl⟩
  rw [hk] at he bk cW
  obtain ⟨e, hee⟩ : ∃ e, (if k = 6 ∨ k = 7 then errB c (c.sendE a.b) else if k = 8 then errB c c.closeE else if k = 9 ∨ k = 10 ∨ k = 11 ∨ k = 12 then errB c 0 else if k = 13 then bif openB a.n a.m a.s.ack a.s then 0 else 1 else bif cnB c && fitsB c (fitS c a) then 0 else 1) = e := ⟨_, rfl⟩
  rw [hee] at he
  have he1 : (e != e) = false := by simp
  have he2 : (e != 0) = true := by simpa using he
  obtain ⟨may, hm⟩ : ∃ b, cnB c = b := ⟨_, rfl⟩
  rw [hm] at cM
  dsimp only [cnR, cnG, cnL, acR, acL, sgR, sgG, sgL] at cC cM cE cS cF cEq ⊢
  refine ACallL.of_AWs Tryz.func19 rfl (fun a w => Tryz.call19 a w) (congrArg Array.toList Tryz.results19) Tryz.ntmps19 (by simp only [spine, List.cons_append, List.nil_append, List.append_assoc]; rfl) fun B hB => ?_
  refine qAWs.cut mixed 11 (by simp only [List.take_succ_cons, List.take_zero]; rfl) (by simp only [List.drop_succ_cons, List.drop_zero]; rfl) (by simp only [chain]; rfl) rfl (X := Unit) (fun _ => slotsOf 212 [(2, .ptr 4 0 0), (4, .ptr 5 0 0), (5, .val (.bool false)), (6, .ptr 6 0 0), (8, .val (.pointer none)), (9, .val (.int .i64 e)), (10, .ptr 7 0 0), (11, .val (.slice none 0 0)), (12, .val (.slice none 0 0)), (13, .val (.int .i64 e))])
    (fun _ => [.perm, .perm, .perm, .perm, cnO (cnL (bL 1 c.out) (.list 2 2 (c.parts.map (prt 3))) c), cnO zC, cnO (cnG 8 9 10 c), cnO zC, .uniq, .uniq, .uniq]) (fun _ => True) ?_ ?_
  · rcases (by omega : k = 6 ∨ k = 7 ∨ k = 8 ∨ k = 9 ∨ k = 10 ∨ k = 11 ∨ k = 12 ∨ k = 13 ∨ (0 ≤ k ∧ k ≤ 5)) with h | h | h | h | h | h | h | h | h
    · subst h
      rw [if_pos (Or.inl rfl)] at hee
      unfold errB at hee
      cases may with
      | true =>
        rw [hm, cond_true] at hee
        have cR := rSend_no c a.b ((cnB_iff c).1 hm).len (by rw [hee]; exact he)
        have cP := tcpSend_no c a.b hc (by omega) (.inr (by rw [hee]; exact he))
        rw [errB, hm, cond_true] at cP
        rw [hee] at cR cP
        dsimp only [cnR, cnL] at cR cP
        ((conv => whnf); (repeat' ((first | (with_reducible first | refine qif_n ?_ | refine qif_t ‹_› ?_ | refine qif_f ‹_› ?_) | ((with_reducible refine qif_t ?_ ?_); focus decide) | ((with_reducible refine qif_f ?_ ?_); focus decide) | (with_reducible refine And.intro (orderOk_i ?ho) ?_; (case ho => kernel_rfl)) | (with_reducible first | refine qif_i (fun _ => ?_) (fun _ => ?_) | refine frcVs_i ?_ | refine frcRs_i ?_) | (((with_reducible refine qCall.reads (cM) [(0, 0), (0, 1), (0, 2), (0, 3)] [] ?hk ?_); (case hk => rfl); (conv => whnf); (repeat (refine And.intro ?_ ?_; exact sideT; (conv => whnf))); (fail_if_success (with_reducible first | refine And.intro (eqv_i ?_) ?_ | refine And.intro (ren_i ?_) ?_)))) | ((with_reducible refine qCall.pure (cW) ?_ ?_ ?_ ?_); rotate_left 4; exact trivial; exact plT; exact plT) | (((with_reducible refine qCall.reads (cR) [(0, 0), (0, 1), (0, 2), (0, 3)] [] ?hk ?_); (case hk => rfl); (conv => whnf); (repeat (refine And.intro ?_ ?_; exact sideT; (conv => whnf))); (fail_if_success (with_reducible first | refine And.intro (eqv_i ?_) ?_ | refine And.intro (ren_i ?_) ?_)))) | (((with_reducible refine qCall.of (cC) [] [(0, 0), (0, 1), (0, 2), (0, 3)] [] [(1, 7), (2, 8), (3, 9)] [(7, .uniq), (8, .uniq), (9, .uniq)] (.agg (cnG 7 8 9 c)) ?hk ?_); (case hk => rfl); (conv => whnf); (repeat (refine And.intro ?_ ?_; exact sideT; (conv => whnf))); (fail_if_success (with_reducible first | refine And.intro (eqv_i ?_) ?_ | refine And.intro (ren_i ?_) ?_)))) | (((with_reducible refine qCall.fresh (fun r => gL r a.b) (cY) [(0, 0)] [] ?hk ?_); (case hk => rfl); (conv => whnf); (repeat (refine And.intro ?_ ?_; exact sideT; (conv => whnf))); (fail_if_success (with_reducible first | refine And.intro (eqv_i ?_) ?_ | refine And.intro (ren_i ?_) ?_)))) | (((with_reducible refine qCall.reads (cP) [(0, 0), (0, 7), (0, 8), (0, 9), (0, 12)] [] ?hk ?_); (case hk => rfl); (conv => whnf); (repeat (refine And.intro ?_ ?_; exact sideT; (conv => whnf))); (fail_if_success (with_reducible first | refine And.intro (eqv_i ?_) ?_ | refine And.intro (ren_i ?_) ?_)))) | (((with_reducible refine qCall.of (spB) [] [(0, 0), (1, 12)] [] [] [(12, .dead)] (.tup []) ?hk ?_); (case hk => rfl); (conv => whnf); (repeat (refine And.intro ?_ ?_; exact sideT; (conv => whnf))); (fail_if_success (with_reducible first | refine And.intro (eqv_i ?_) ?_ | refine And.intro (ren_i ?_) ?_))))) <;> (conv => whnf))))
        all_goals as_aux_lemma =>
          refine ⟨(), trivial, ?_⟩
          (refine qConv.of hB [(4, 4), (6, 5), (10, 6), (11, 7)] [(0, 0), (1, 1), (2, 2), (3, 3), (7, 8), (8, 9), (9, 10)] [] (by rfl) ?_; focus ((conv => whnf); (repeat (refine And.intro ?_ ?_; rotate_left; (conv => whnf))); exact trivial; all_goals (try exact andT)))
          all_goals (try exact dt_AhTcpNo2_ROWN)
      | false =>
        rw [hm, cond_false] at hee
        have cP := tcpSend_no c a.b hc (by omega) (.inl hm)
        rw [errB, hm, cond_false] at cP
        subst hee
        dsimp only [cnR, cnL] at cP
        ((conv => whnf); (repeat' ((first | (with_reducible first | refine qif_n ?_ | refine qif_t ‹_› ?_ | refine qif_f ‹_› ?_) | ((with_reducible refine qif_t ?_ ?_); focus decide) | ((with_reducible refine qif_f ?_ ?_); focus decide) | (with_reducible refine And.intro (orderOk_i ?ho) ?_; (case ho => kernel_rfl)) | (with_reducible first | refine qif_i (fun _ => ?_) (fun _ => ?_) | refine frcVs_i ?_ | refine frcRs_i ?_) | (((with_reducible refine qCall.reads (cM) [(0, 0), (0, 1), (0, 2), (0, 3)] [] ?hk ?_); (case hk => rfl); (conv => whnf); (repeat (refine And.intro ?_ ?_; exact sideT; (conv => whnf))); (fail_if_success (with_reducible first | refine And.intro (eqv_i ?_) ?_ | refine And.intro (ren_i ?_) ?_)))) | ((with_reducible refine qCall.pure (cW) ?_ ?_ ?_ ?_); rotate_left 4; exact trivial; exact plT; exact plT) | (((with_reducible refine qCall.of (cC) [] [(0, 0), (0, 1), (0, 2), (0, 3)] [] [(1, 7), (2, 8), (3, 9)] [(7, .uniq), (8, .uniq), (9, .uniq)] (.agg (cnG 7 8 9 c)) ?hk ?_); (case hk => rfl); (conv => whnf); (repeat (refine And.intro ?_ ?_; exact sideT; (conv => whnf))); (fail_if_success (with_reducible first | refine And.intro (eqv_i ?_) ?_ | refine And.intro (ren_i ?_) ?_)))) | (((with_reducible refine qCall.fresh (fun r => gL r a.b) (cY) [(0, 0)] [] ?hk ?_); (case hk => rfl); (conv => whnf); (repeat (refine And.intro ?_ ?_; exact sideT; (conv => whnf))); (fail_if_success (with_reducible first | refine And.intro (eqv_i ?_) ?_ | refine And.intro (ren_i ?_) ?_)))) | (((with_reducible refine qCall.reads (cP) [(0, 0), (0, 7), (0, 8), (0, 9), (0, 12)] [] ?hk ?_); (case hk => rfl); (conv => whnf); (repeat (refine And.intro ?_ ?_; exact sideT; (conv => whnf))); (fail_if_success (with_reducible first | refine And.intro (eqv_i ?_) ?_ | refine And.intro (ren_i ?_) ?_)))) | (((with_reducible refine qCall.of (spB) [] [(0, 0), (1, 12)] [] [] [(12, .dead)] (.tup []) ?hk ?_); (case hk => rfl); (conv => whnf); (repeat (refine And.intro ?_ ?_; exact sideT; (conv => whnf))); (fail_if_success (with_reducible first | refine And.intro (eqv_i ?_) ?_ | refine And.intro (ren_i ?_) ?_))))) <;> (conv => whnf))))
        all_goals as_aux_lemma =>
          refine ⟨(), trivial, ?_⟩
          (refine qConv.of hB [(4, 4), (6, 5), (10, 6), (11, 7)] [(0, 0), (1, 1), (2, 2), (3, 3), (7, 8), (8, 9), (9, 10)] [] (by rfl) ?_; focus ((conv => whnf); (repeat (refine And.intro ?_ ?_; rotate_left; (conv => whnf))); exact trivial; all_goals (try exact andT)))
          all_goals (try exact dt_AhTcpNo2_ROWN)
    · subst h
      rw [if_pos (Or.inr rfl)] at hee
      unfold errB at hee
      cases may with
      | true =>
        rw [hm, cond_true] at hee
        have cR := rSend_no c a.b ((cnB_iff c).1 hm).len (by rw [hee]; exact he)
        have cP := tcpSend_no c a.b hc (by omega) (.inr (by rw [hee]; exact he))
        rw [errB, hm, cond_true] at cP
        rw [hee] at cR cP
        dsimp only [cnR, cnL] at cR cP
        ((conv => whnf); (repeat' ((first | (with_reducible first | refine qif_n ?_ | refine qif_t ‹_› ?_ | refine qif_f ‹_› ?_) | ((with_reducible refine qif_t ?_ ?_); focus decide) | ((with_reducible refine qif_f ?_ ?_); focus decide) | (with_reducible refine And.intro (orderOk_i ?ho) ?_; (case ho => kernel_rfl)) | (with_reducible first | refine qif_i (fun _ => ?_) (fun _ => ?_) | refine frcVs_i ?_ | refine frcRs_i ?_) | (((with_reducible refine qCall.reads (cM) [(0, 0), (0, 1), (0, 2), (0, 3)] [] ?hk ?_); (case hk => rfl); (conv => whnf); (repeat (refine And.intro ?_ ?_; exact sideT; (conv => whnf))); (fail_if_success (with_reducible first | refine And.intro (eqv_i ?_) ?_ | refine And.intro (ren_i ?_) ?_)))) | ((with_reducible refine qCall.pure (cW) ?_ ?_ ?_ ?_); rotate_left 4; exact trivial; exact plT; exact plT) | (((with_reducible refine qCall.reads (cR) [(0, 0), (0, 1), (0, 2), (0, 3)] [] ?hk ?_); (case hk => rfl); (conv => whnf); (repeat (refine And.intro ?_ ?_; exact sideT; (conv => whnf))); (fail_if_success (with_reducible first | refine And.intro (eqv_i ?_) ?_ | refine And.intro (ren_i ?_) ?_)))) | (((with_reducible refine qCall.of (cC) [] [(0, 0), (0, 1), (0, 2), (0, 3)] [] [(1, 7), (2, 8), (3, 9)] [(7, .uniq), (8, .uniq), (9, .uniq)] (.agg (cnG 7 8 9 c)) ?hk ?_); (case hk => rfl); (conv => whnf); (repeat (refine And.intro ?_ ?_; exact sideT; (conv => whnf))); (fail_if_success (with_reducible first | refine And.intro (eqv_i ?_) ?_ | refine And.intro (ren_i ?_) ?_)))) | (((with_reducible refine qCall.fresh (fun r => gL r a.b) (cY) [(0, 0)] [] ?hk ?_); (case hk => rfl); (conv => whnf); (repeat (refine And.intro ?_ ?_; exact sideT; (conv => whnf))); (fail_if_success (with_reducible first | refine And.intro (eqv_i ?_) ?_ | refine And.intro (ren_i ?_) ?_)))) | (((with_reducible refine qCall.reads (cP) [(0, 0), (0, 7), (0, 8), (0, 9), (0, 12)] [] ?hk ?_); (case hk => rfl); (conv => whnf); (repeat (refine And.intro ?_ ?_; exact sideT; (conv => whnf))); (fail_if_success (with_reducible first | refine And.intro (eqv_i ?_) ?_ | refine And.intro (ren_i ?_) ?_)))) | (((with_reducible refine qCall.of (spB) [] [(0, 0), (1, 12)] [] [] [(12, .dead)] (.tup []) ?hk ?_); (case hk => rfl); (conv => whnf); (repeat (refine And.intro ?_ ?_; exact sideT; (conv => whnf))); (fail_if_success (with_reducible first | refine And.intro (eqv_i ?_) ?_ | refine And.intro (ren_i ?_) ?_))))) <;> (conv => whnf))))
        all_goals as_aux_lemma =>
          refine ⟨(), trivial, ?_⟩
          (refine qConv.of hB [(4, 4), (6, 5), (10, 6), (11, 7)] [(0, 0), (1, 1), (2, 2), (3, 3), (7, 8), (8, 9), (9, 10)] [] (by rfl) ?_; focus ((conv => whnf); (repeat (refine And.intro ?_ ?_; rotate_left; (conv => whnf))); exact trivial; all_goals (try exact andT)))
          all_goals (try exact dt_AhTcpNo2_ROWN)
      | false =>
        rw [hm, cond_false] at hee
        have cP := tcpSend_no c a.b hc (by omega) (.inl hm)
        rw [errB, hm, cond_false] at cP
        subst hee
        dsimp only [cnR, cnL] at cP
        ((conv => whnf); (repeat' ((first | (with_reducible first | refine qif_n ?_ | refine qif_t ‹_› ?_ | refine qif_f ‹_› ?_) | ((with_reducible refine qif_t ?_ ?_); focus decide) | ((with_reducible refine qif_f ?_ ?_); focus decide) | (with_reducible refine And.intro (orderOk_i ?ho) ?_; (case ho => kernel_rfl)) | (with_reducible first | refine qif_i (fun _ => ?_) (fun _ => ?_) | refine frcVs_i ?_ | refine frcRs_i ?_) | (((with_reducible refine qCall.reads (cM) [(0, 0), (0, 1), (0, 2), (0, 3)] [] ?hk ?_); (case hk => rfl); (conv => whnf); (repeat (refine And.intro ?_ ?_; exact sideT; (conv => whnf))); (fail_if_success (with_reducible first | refine And.intro (eqv_i ?_) ?_ | refine And.intro (ren_i ?_) ?_)))) | ((with_reducible refine qCall.pure (cW) ?_ ?_ ?_ ?_); rotate_left 4; exact trivial; exact plT; exact plT) | (((with_reducible refine qCall.of (cC) [] [(0, 0), (0, 1), (0, 2), (0, 3)] [] [(1, 7), (2, 8), (3, 9)] [(7, .uniq), (8, .uniq), (9, .uniq)] (.agg (cnG 7 8 9 c)) ?hk ?_); (case hk => rfl); (conv => whnf); (repeat (refine And.intro ?_ ?_; exact sideT; (conv => whnf))); (fail_if_success (with_reducible first | refine And.intro (eqv_i ?_) ?_ | refine And.intro (ren_i ?_) ?_)))) | (((with_reducible refine qCall.fresh (fun r => gL r a.b) (cY) [(0, 0)] [] ?hk ?_); (case hk => rfl); (conv => whnf); (repeat (refine And.intro ?_ ?_; exact sideT; (conv => whnf))); (fail_if_success (with_reducible first | refine And.intro (eqv_i ?_) ?_ | refine And.intro (ren_i ?_) ?_)))) | (((with_reducible refine qCall.reads (cP) [(0, 0), (0, 7), (0, 8), (0, 9), (0, 12)] [] ?hk ?_); (case hk => rfl); (conv => whnf); (repeat (refine And.intro ?_ ?_; exact sideT; (conv => whnf))); (fail_if_success (with_reducible first | refine And.intro (eqv_i ?_) ?_ | refine And.intro (ren_i ?_) ?_)))) | (((with_reducible refine qCall.of (spB) [] [(0, 0), (1, 12)] [] [] [(12, .dead)] (.tup []) ?hk ?_); (case hk => rfl); (conv => whnf); (repeat (refine And.intro ?_ ?_; exact sideT; (conv => whnf))); (fail_if_success (with_reducible first | refine And.intro (eqv_i ?_) ?_ | refine And.intro (ren_i ?_) ?_))))) <;> (conv => whnf))))
        all_goals as_aux_lemma =>
          refine ⟨(), trivial, ?_⟩
          (refine qConv.of hB [(4, 4), (6, 5), (10, 6), (11, 7)] [(0, 0), (1, 1), (2, 2), (3, 3), (7, 8), (8, 9), (9, 10)] [] (by rfl) ?_; focus ((conv => whnf); (repeat (refine And.intro ?_ ?_; rotate_left; (conv => whnf))); exact trivial; all_goals (try exact andT)))
          all_goals (try exact dt_AhTcpNo2_ROWN)
    · subst h
      simp only [show ¬ ((8 : Int) = 6 ∨ (8 : Int) = 7) by decide, if_false, if_true, errB] at hee
      cases may with
      | true =>
        rw [hm, cond_true] at hee
        have h6 : c.closeE = 6 := by
          have h : c.closeE ≠ 0 := by rw [hee]; exact he
          unfold Cn.closeE at h ⊢
          obtain ⟨b1, hb1⟩ : ∃ b, c.closing = b := ⟨_, rfl⟩
          obtain ⟨b2, hb2⟩ : ∃ b, (c.talks || c.st == 1) = b := ⟨_, rfl⟩
          rw [hb1, hb2] at h ⊢
          cases b1 <;> cases b2 <;> first | rfl | exact (h rfl).elim
        have e6 : e = 6 := by rw [← hee]; exact h6
        have cR := rClose_no c h6
        have cP := tcpClose_no c hc (.inr (by rw [hee]; exact he))
        rw [errB, hm, cond_true, hee] at cP
        rw [← e6] at cR
        clear e6
        dsimp only [cnR, cnL] at cR cP
        ((conv => whnf); (repeat' ((first | (with_reducible first | refine qif_n ?_ | refine qif_t ‹_› ?_ | refine qif_f ‹_› ?_) | ((with_reducible refine qif_t ?_ ?_); focus decide) | ((with_reducible refine qif_f ?_ ?_); focus decide) | (with_reducible refine And.intro (orderOk_i ?ho) ?_; (case ho => kernel_rfl)) | (with_reducible first | refine qif_i (fun _ => ?_) (fun _ => ?_) | refine frcVs_i ?_ | refine frcRs_i ?_) | (((with_reducible refine qCall.reads (cM) [(0, 0), (0, 1), (0, 2), (0, 3)] [] ?hk ?_); (case hk => rfl); (conv => whnf); (repeat (refine And.intro ?_ ?_; exact sideT; (conv => whnf))); (fail_if_success (with_reducible first | refine And.intro (eqv_i ?_) ?_ | refine And.intro (ren_i ?_) ?_)))) | ((with_reducible refine qCall.pure (cW) ?_ ?_ ?_ ?_); rotate_left 4; exact trivial; exact plT; exact plT) | (((with_reducible refine qCall.reads (cR) [(0, 0), (0, 1), (0, 2), (0, 3)] [] ?hk ?_); (case hk => rfl); (conv => whnf); (repeat (refine And.intro ?_ ?_; exact sideT; (conv => whnf))); (fail_if_success (with_reducible first | refine And.intro (eqv_i ?_) ?_ | refine And.intro (ren_i ?_) ?_)))) | (((with_reducible refine qCall.of (cC) [] [(0, 0), (0, 1), (0, 2), (0, 3)] [] [(1, 7), (2, 8), (3, 9)] [(7, .uniq), (8, .uniq), (9, .uniq)] (.agg (cnG 7 8 9 c)) ?hk ?_); (case hk => rfl); (conv => whnf); (repeat (refine And.intro ?_ ?_; exact sideT; (conv => whnf))); (fail_if_success (with_reducible first | refine And.intro (eqv_i ?_) ?_ | refine And.intro (ren_i ?_) ?_)))) | (((with_reducible refine qCall.reads (cP) [(0, 0), (0, 7), (0, 8), (0, 9)] [] ?hk ?_); (case hk => rfl); (conv => whnf); (repeat (refine And.intro ?_ ?_; exact sideT; (conv => whnf))); (fail_if_success (with_reducible first | refine And.intro (eqv_i ?_) ?_ | refine And.intro (ren_i ?_) ?_))))) <;> (conv => whnf))))
        all_goals as_aux_lemma =>
          refine ⟨(), trivial, ?_⟩
          (refine qConv.of hB [(4, 4), (6, 5), (10, 6), (11, 7)] [(0, 0), (1, 1), (2, 2), (3, 3), (7, 8), (8, 9), (9, 10)] [] (by rfl) ?_; focus ((conv => whnf); (repeat (refine And.intro ?_ ?_; rotate_left; (conv => whnf))); exact trivial; all_goals (try exact andT)))
          all_goals (try exact dt_AhTcpNo2_ROWN)
      | false =>
        rw [hm, cond_false] at hee
        have cP := tcpClose_no c hc (.inl hm)
        rw [errB, hm, cond_false] at cP
        subst hee
        dsimp only [cnR, cnL] at cP
        ((conv => whnf); (repeat' ((first | (with_reducible first | refine qif_n ?_ | refine qif_t ‹_› ?_ | refine qif_f ‹_› ?_) | ((with_reducible refine qif_t ?_ ?_); focus decide) | ((with_reducible refine qif_f ?_ ?_); focus decide) | (with_reducible refine And.intro (orderOk_i ?ho) ?_; (case ho => kernel_rfl)) | (with_reducible first | refine qif_i (fun _ => ?_) (fun _ => ?_) | refine frcVs_i ?_ | refine frcRs_i ?_) | (((with_reducible refine qCall.reads (cM) [(0, 0), (0, 1), (0, 2), (0, 3)] [] ?hk ?_); (case hk => rfl); (conv => whnf); (repeat (refine And.intro ?_ ?_; exact sideT; (conv => whnf))); (fail_if_success (with_reducible first | refine And.intro (eqv_i ?_) ?_ | refine And.intro (ren_i ?_) ?_)))) | ((with_reducible refine qCall.pure (cW) ?_ ?_ ?_ ?_); rotate_left 4; exact trivial; exact plT; exact plT) | (((with_reducible refine qCall.of (cC) [] [(0, 0), (0, 1), (0, 2), (0, 3)] [] [(1, 7), (2, 8), (3, 9)] [(7, .uniq), (8, .uniq), (9, .uniq)] (.agg (cnG 7 8 9 c)) ?hk ?_); (case hk => rfl); (conv => whnf); (repeat (refine And.intro ?_ ?_; exact sideT; (conv => whnf))); (fail_if_success (with_reducible first | refine And.intro (eqv_i ?_) ?_ | refine And.intro (ren_i ?_) ?_)))) | (((with_reducible refine qCall.reads (cP) [(0, 0), (0, 7), (0, 8), (0, 9)] [] ?hk ?_); (case hk => rfl); (conv => whnf); (repeat (refine And.intro ?_ ?_; exact sideT; (conv => whnf))); (fail_if_success (with_reducible first | refine And.intro (eqv_i ?_) ?_ | refine And.intro (ren_i ?_) ?_))))) <;> (conv => whnf))))
        all_goals as_aux_lemma =>
          refine ⟨(), trivial, ?_⟩
          (refine qConv.of hB [(4, 4), (6, 5), (10, 6), (11, 7)] [(0, 0), (1, 1), (2, 2), (3, 3), (7, 8), (8, 9), (9, 10)] [] (by rfl) ?_; focus ((conv => whnf); (repeat (refine And.intro ?_ ?_; rotate_left; (conv => whnf))); exact trivial; all_goals (try exact andT)))
          all_goals (try exact dt_AhTcpNo2_ROWN)
    · subst h
      simp only [show ¬ ((9 : Int) = 6 ∨ (9 : Int) = 7) by decide, show ¬ ((9 : Int) = 8) by decide, if_false, show (9 : Int) = 9 ∨ (9 : Int) = 10 ∨ (9 : Int) = 11 ∨ (9 : Int) = 12 by decide, if_true, errB] at hee
      cases may with
      | true => rw [hm, cond_true] at hee; exact absurd hee.symm he
      | false =>
        rw [hm, cond_false] at hee
        subst hee
        have cA := tcpAbort_no c hc hm
        dsimp only [cnR, cnL] at cA
        ((conv => whnf); (repeat' ((first | (with_reducible first | refine qif_n ?_ | refine qif_t ‹_› ?_ | refine qif_f ‹_› ?_) | ((with_reducible refine qif_t ?_ ?_); focus decide) | ((with_reducible refine qif_f ?_ ?_); focus decide) | (with_reducible refine And.intro (orderOk_i ?ho) ?_; (case ho => kernel_rfl)) | (with_reducible first | refine qif_i (fun _ => ?_) (fun _ => ?_) | refine frcVs_i ?_ | refine frcRs_i ?_) | (((with_reducible refine qCall.reads (cM) [(0, 0), (0, 1), (0, 2), (0, 3)] [] ?hk ?_); (case hk => rfl); (conv => whnf); (repeat (refine And.intro ?_ ?_; exact sideT; (conv => whnf))); (fail_if_success (with_reducible first | refine And.intro (eqv_i ?_) ?_ | refine And.intro (ren_i ?_) ?_)))) | ((with_reducible refine qCall.pure (cW) ?_ ?_ ?_ ?_); rotate_left 4; exact trivial; exact plT; exact plT) | (((with_reducible refine qCall.of (cC) [] [(0, 0), (0, 1), (0, 2), (0, 3)] [] [(1, 7), (2, 8), (3, 9)] [(7, .uniq), (8, .uniq), (9, .uniq)] (.agg (cnG 7 8 9 c)) ?hk ?_); (case hk => rfl); (conv => whnf); (repeat (refine And.intro ?_ ?_; exact sideT; (conv => whnf))); (fail_if_success (with_reducible first | refine And.intro (eqv_i ?_) ?_ | refine And.intro (ren_i ?_) ?_)))) | (((with_reducible refine qCall.reads (cA) [(0, 0), (0, 7), (0, 8), (0, 9)] [] ?hk ?_); (case hk => rfl); (conv => whnf); (repeat (refine And.intro ?_ ?_; exact sideT; (conv => whnf))); (fail_if_success (with_reducible first | refine And.intro (eqv_i ?_) ?_ | refine And.intro (ren_i ?_) ?_))))) <;> (conv => whnf))))
        all_goals as_aux_lemma =>
          refine ⟨(), trivial, ?_⟩
          (refine qConv.of hB [(4, 4), (6, 5), (10, 6), (11, 7)] [(0, 0), (1, 1), (2, 2), (3, 3), (7, 8), (8, 9), (9, 10)] [] (by rfl) ?_; focus ((conv => whnf); (repeat (refine And.intro ?_ ?_; rotate_left; (conv => whnf))); exact trivial; all_goals (try exact andT)))
          all_goals (try exact dt_AhTcpNo2_ROWN)
    · subst h
      simp only [show ¬ ((10 : Int) = 6 ∨ (10 : Int) = 7) by decide, show ¬ ((10 : Int) = 8) by decide, if_false, show (10 : Int) = 9 ∨ (10 : Int) = 10 ∨ (10 : Int) = 11 ∨ (10 : Int) = 12 by decide, if_true, errB] at hee
      cases may with
      | true => rw [hm, cond_true] at hee; exact absurd hee.symm he
      | false =>
        rw [hm, cond_false] at hee
        subst hee
        have cA := tcpTick_no c hc hm
        dsimp only [cnR, cnL] at cA
        ((conv => whnf); (repeat' ((first | (with_reducible first | refine qif_n ?_ | refine qif_t ‹_› ?_ | refine qif_f ‹_› ?_) | ((with_reducible refine qif_t ?_ ?_); focus decide) | ((with_reducible refine qif_f ?_ ?_); focus decide) | (with_reducible refine And.intro (orderOk_i ?ho) ?_; (case ho => kernel_rfl)) | (with_reducible first | refine qif_i (fun _ => ?_) (fun _ => ?_) | refine frcVs_i ?_ | refine frcRs_i ?_) | (((with_reducible refine qCall.reads (cM) [(0, 0), (0, 1), (0, 2), (0, 3)] [] ?hk ?_); (case hk => rfl); (conv => whnf); (repeat (refine And.intro ?_ ?_; exact sideT; (conv => whnf))); (fail_if_success (with_reducible first | refine And.intro (eqv_i ?_) ?_ | refine And.intro (ren_i ?_) ?_)))) | ((with_reducible refine qCall.pure (cW) ?_ ?_ ?_ ?_); rotate_left 4; exact trivial; exact plT; exact plT) | (((with_reducible refine qCall.of (cC) [] [(0, 0), (0, 1), (0, 2), (0, 3)] [] [(1, 7), (2, 8), (3, 9)] [(7, .uniq), (8, .uniq), (9, .uniq)] (.agg (cnG 7 8 9 c)) ?hk ?_); (case hk => rfl); (conv => whnf); (repeat (refine And.intro ?_ ?_; exact sideT; (conv => whnf))); (fail_if_success (with_reducible first | refine And.intro (eqv_i ?_) ?_ | refine And.intro (ren_i ?_) ?_)))) | (((with_reducible refine qCall.reads (cA) [(0, 0), (0, 7), (0, 8), (0, 9)] [] ?hk ?_); (case hk => rfl); (conv => whnf); (repeat (refine And.intro ?_ ?_; exact sideT; (conv => whnf))); (fail_if_success (with_reducible first | refine And.intro (eqv_i ?_) ?_ | refine And.intro (ren_i ?_) ?_))))) <;> (conv => whnf))))
        all_goals as_aux_lemma =>
          refine ⟨(), trivial, ?_⟩
          (refine qConv.of hB [(4, 4), (6, 5), (10, 6), (11, 7)] [(0, 0), (1, 1), (2, 2), (3, 3), (7, 8), (8, 9), (9, 10)] [] (by rfl) ?_; focus ((conv => whnf); (repeat (refine And.intro ?_ ?_; rotate_left; (conv => whnf))); exact trivial; all_goals (try exact andT)))
          all_goals (try exact dt_AhTcpNo2_ROWN)
    · subst h
      simp only [show ¬ ((11 : Int) = 6 ∨ (11 : Int) = 7) by decide, show ¬ ((11 : Int) = 8) by decide, if_false, show (11 : Int) = 9 ∨ (11 : Int) = 10 ∨ (11 : Int) = 11 ∨ (11 : Int) = 12 by decide, if_true, errB] at hee
      cases may with
      | true => rw [hm, cond_true] at hee; exact absurd hee.symm he
      | false =>
        rw [hm, cond_false] at hee
        subst hee
        have cA := tcpTick_no c hc hm
        dsimp only [cnR, cnL] at cA
        ((conv => whnf); (repeat' ((first | (with_reducible first | refine qif_n ?_ | refine qif_t ‹_› ?_ | refine qif_f ‹_› ?_) | ((with_reducible refine qif_t ?_ ?_); focus decide) | ((with_reducible refine qif_f ?_ ?_); focus decide) | (with_reducible refine And.intro (orderOk_i ?ho) ?_; (case ho => kernel_rfl)) | (with_reducible first | refine qif_i (fun _ => ?_) (fun _ => ?_) | refine frcVs_i ?_ | refine frcRs_i ?_) | (((with_reducible refine qCall.reads (cM) [(0, 0), (0, 1), (0, 2), (0, 3)] [] ?hk ?_); (case hk => rfl); (conv => whnf); (repeat (refine And.intro ?_ ?_; exact sideT; (conv => whnf))); (fail_if_success (with_reducible first | refine And.intro (eqv_i ?_) ?_ | refine And.intro (ren_i ?_) ?_)))) | ((with_reducible refine qCall.pure (cW) ?_ ?_ ?_ ?_); rotate_left 4; exact trivial; exact plT; exact plT) | (((with_reducible refine qCall.of (cC) [] [(0, 0), (0, 1), (0, 2), (0, 3)] [] [(1, 7), (2, 8), (3, 9)] [(7, .uniq), (8, .uniq), (9, .uniq)] (.agg (cnG 7 8 9 c)) ?hk ?_); (case hk => rfl); (conv => whnf); (repeat (refine And.intro ?_ ?_; exact sideT; (conv => whnf))); (fail_if_success (with_reducible first | refine And.intro (eqv_i ?_) ?_ | refine And.intro (ren_i ?_) ?_)))) | (((with_reducible refine qCall.reads (cA) [(0, 0), (0, 7), (0, 8), (0, 9)] [] ?hk ?_); (case hk => rfl); (conv => whnf); (repeat (refine And.intro ?_ ?_; exact sideT; (conv => whnf))); (fail_if_success (with_reducible first | refine And.intro (eqv_i ?_) ?_ | refine And.intro (ren_i ?_) ?_))))) <;> (conv => whnf))))
        all_goals as_aux_lemma =>
          refine ⟨(), trivial, ?_⟩
          (refine qConv.of hB [(4, 4), (6, 5), (10, 6), (11, 7)] [(0, 0), (1, 1), (2, 2), (3, 3), (7, 8), (8, 9), (9, 10)] [] (by rfl) ?_; focus ((conv => whnf); (repeat (refine And.intro ?_ ?_; rotate_left; (conv => whnf))); exact trivial; all_goals (try exact andT)))
          all_goals (try exact dt_AhTcpNo2_ROWN)
    · subst h
      simp only [show ¬ ((12 : Int) = 6 ∨ (12 : Int) = 7) by decide, show ¬ ((12 : Int) = 8) by decide, if_false, show (12 : Int) = 9 ∨ (12 : Int) = 10 ∨ (12 : Int) = 11 ∨ (12 : Int) = 12 by decide, if_true, errB] at hee
      cases may with
      | true => rw [hm, cond_true] at hee; exact absurd hee.symm he
      | false =>
        rw [hm, cond_false] at hee
        subst hee
        have cA := tcpTick_no c hc hm
        dsimp only [cnR, cnL] at cA
        ((conv => whnf); (repeat' ((first | (with_reducible first | refine qif_n ?_ | refine qif_t ‹_› ?_ | refine qif_f ‹_› ?_) | ((with_reducible refine qif_t ?_ ?_); focus decide) | ((with_reducible refine qif_f ?_ ?_); focus decide) | (with_reducible refine And.intro (orderOk_i ?ho) ?_; (case ho => kernel_rfl)) | (with_reducible first | refine qif_i (fun _ => ?_) (fun _ => ?_) | refine frcVs_i ?_ | refine frcRs_i ?_) | (((with_reducible refine qCall.reads (cM) [(0, 0), (0, 1), (0, 2), (0, 3)] [] ?hk ?_); (case hk => rfl); (conv => whnf); (repeat (refine And.intro ?_ ?_; exact sideT; (conv => whnf))); (fail_if_success (with_reducible first | refine And.intro (eqv_i ?_) ?_ | refine And.intro (ren_i ?_) ?_)))) | ((with_reducible refine qCall.pure (cW) ?_ ?_ ?_ ?_); rotate_left 4; exact trivial; exact plT; exact plT) | (((with_reducible refine qCall.of (cC) [] [(0, 0), (0, 1), (0, 2), (0, 3)] [] [(1, 7), (2, 8), (3, 9)] [(7, .uniq), (8, .uniq), (9, .uniq)] (.agg (cnG 7 8 9 c)) ?hk ?_); (case hk => rfl); (conv => whnf); (repeat (refine And.intro ?_ ?_; exact sideT; (conv => whnf))); (fail_if_success (with_reducible first | refine And.intro (eqv_i ?_) ?_ | refine And.intro (ren_i ?_) ?_)))) | (((with_reducible refine qCall.reads (cA) [(0, 0), (0, 7), (0, 8), (0, 9)] [] ?hk ?_); (case hk => rfl); (conv => whnf); (repeat (refine And.intro ?_ ?_; exact sideT; (conv => whnf))); (fail_if_success (with_reducible first | refine And.intro (eqv_i ?_) ?_ | refine And.intro (ren_i ?_) ?_))))) <;> (conv => whnf))))
        all_goals as_aux_lemma =>
          refine ⟨(), trivial, ?_⟩
          (refine qConv.of hB [(4, 4), (6, 5), (10, 6), (11, 7)] [(0, 0), (1, 1), (2, 2), (3, 3), (7, 8), (8, 9), (9, 10)] [] (by rfl) ?_; focus ((conv => whnf); (repeat (refine And.intro ?_ ?_; rotate_left; (conv => whnf))); exact trivial; all_goals (try exact andT)))
          all_goals (try exact dt_AhTcpNo2_ROWN)
    · subst h
      simp only [show ¬ ((13 : Int) = 6 ∨ (13 : Int) = 7) by decide, show ¬ ((13 : Int) = 8) by decide, if_false, show ¬ ((13 : Int) = 9 ∨ (13 : Int) = 10 ∨ (13 : Int) = 11 ∨ (13 : Int) = 12) by decide, if_true] at hee
      have hop : openB a.n a.m a.s.ack a.s = false := by
        cases h : openB a.n a.m a.s.ack a.s with
        | false => rfl
        | true => rw [h, cond_true] at hee; exact absurd hee.symm he
      rw [hop, cond_false] at hee
      subst hee
      have cR := refMayOpen_l a.n a.m a.s.ack a.s
      rw [hop] at cR
      have cA := tcpOpen_no a.n a.m a.s.ack a.s hop
      dsimp only [sgR, sgL] at cR cA
      cases may <;> ((conv => whnf); (repeat' ((first | (with_reducible first | refine qif_n ?_ | refine qif_t ‹_› ?_ | refine qif_f ‹_› ?_) | ((with_reducible refine qif_t ?_ ?_); focus decide) | ((with_reducible refine qif_f ?_ ?_); focus decide) | (with_reducible refine And.intro (orderOk_i ?ho) ?_; (case ho => kernel_rfl)) | (with_reducible first | refine qif_i (fun _ => ?_) (fun _ => ?_) | refine frcVs_i ?_ | refine frcRs_i ?_) | (((with_reducible refine qCall.reads (cM) [(0, 0), (0, 1), (0, 2), (0, 3)] [] ?hk ?_); (case hk => rfl); (conv => whnf); (repeat (refine And.intro ?_ ?_; exact sideT; (conv => whnf))); (fail_if_success (with_reducible first | refine And.intro (eqv_i ?_) ?_ | refine And.intro (ren_i ?_) ?_)))) | ((with_reducible refine qCall.pure (cW) ?_ ?_ ?_ ?_); rotate_left 4; exact trivial; exact plT; exact plT) | ((with_reducible refine qCall.pure (cR) ?_ ?_ ?_ ?_); rotate_left 4; exact trivial; exact plT; exact plT) | ((with_reducible refine qCall.pure (cA) ?_ ?_ ?_ ?_); rotate_left 4; exact trivial; exact plT; exact plT) | (((with_reducible refine qCall.of (cC) [] [(0, 0), (0, 1), (0, 2), (0, 3)] [] [(1, 7), (2, 8), (3, 9)] [(7, .uniq), (8, .uniq), (9, .uniq)] (.agg (cnG 7 8 9 c)) ?hk ?_); (case hk => rfl); (conv => whnf); (repeat (refine And.intro ?_ ?_; exact sideT; (conv => whnf))); (fail_if_success (with_reducible first | refine And.intro (eqv_i ?_) ?_ | refine And.intro (ren_i ?_) ?_))))) <;> (conv => whnf))))
      all_goals as_aux_lemma =>
        refine ⟨(), trivial, ?_⟩
        (refine qConv.of hB [(4, 4), (6, 5), (10, 6), (11, 7)] [(0, 0), (1, 1), (2, 2), (3, 3), (7, 8), (8, 9), (9, 10)] [] (by rfl) ?_; focus ((conv => whnf); (repeat (refine And.intro ?_ ?_; rotate_left; (conv => whnf))); exact trivial; all_goals (try exact andT)))
        all_goals (try exact dt_AhTcpNo2_ROWN)
    · obtain ⟨n1, n2, n3, n4, n5, n6, n7, n8⟩ : (k == 6) = false ∧ (k == 7) = false ∧ (k == 8) = false ∧ (k == 9) = false ∧ (k == 10) = false ∧ (k == 11) = false ∧ (k == 12) = false ∧ (k == 13) = false := by
        simp only [beq_eq_false_iff_ne]; omega
      simp only [show ¬ (k = 6 ∨ k = 7) by omega, show ¬ (k = 8) by omega, if_false, show ¬ (k = 9 ∨ k = 10 ∨ k = 11 ∨ k = 12) by omega, show ¬ (k = 13) by omega] at hee
      have hf : (cnB c && fitsB c (fitS c a)) = false := by
        cases h : (cnB c && fitsB c (fitS c a)) with
        | false => rfl
        | true => rw [h, cond_true] at hee; exact absurd hee.symm he
      rw [hf, cond_false] at hee
      subst hee
      have cA := tcpTake_no c (fitS c a) hc hf
      have cR := refFits_l c (fitS c a)
      rw [hm] at hf
      obtain ⟨f, hfd⟩ : ∃ f, fitS c a = f := ⟨_, rfl⟩
      obtain ⟨fb, hfb⟩ : ∃ b, fitsB c f = b := ⟨_, rfl⟩
      rw [hfd] at cA cR hf cF cS cEq spS pzf
      rw [hfb] at cR hf
      dsimp only [cnR, cnL, sgR, sgL] at cA cR
      cases may with
      | true =>
        rw [Bool.true_and] at hf
        subst hf
        ((conv => whnf); (repeat' ((first | (with_reducible first | refine qif_n ?_ | refine qif_t ‹_› ?_ | refine qif_f ‹_› ?_) | ((with_reducible refine qif_t ?_ ?_); focus decide) | ((with_reducible refine qif_f ?_ ?_); focus decide) | (with_reducible refine And.intro (orderOk_i ?ho) ?_; (case ho => kernel_rfl)) | (with_reducible first | refine qif_i (fun _ => ?_) (fun _ => ?_) | refine frcVs_i ?_ | refine frcRs_i ?_) | (((with_reducible refine qCall.reads (cM) [(0, 0), (0, 1), (0, 2), (0, 3)] [] ?hk ?_); (case hk => rfl); (conv => whnf); (repeat (refine And.intro ?_ ?_; exact sideT; (conv => whnf))); (fail_if_success (with_reducible first | refine And.intro (eqv_i ?_) ?_ | refine And.intro (ren_i ?_) ?_)))) | ((with_reducible refine qCall.pure (cW) ?_ ?_ ?_ ?_); rotate_left 4; exact trivial; exact plT; exact plT) | (((with_reducible refine qCall.of (cC) [] [(0, 0), (0, 1), (0, 2), (0, 3)] [] [(1, 7), (2, 8), (3, 9)] [(7, .uniq), (8, .uniq), (9, .uniq)] (.agg (cnG 7 8 9 c)) ?hk ?_); (case hk => rfl); (conv => whnf); (repeat (refine And.intro ?_ ?_; exact sideT; (conv => whnf))); (fail_if_success (with_reducible first | refine And.intro (eqv_i ?_) ?_ | refine And.intro (ren_i ?_) ?_)))) | (((with_reducible refine qCall.of (cF) [] [(0, 0), (0, 1), (0, 2), (0, 3)] [] [(1, 12)] [(12, .uniq)] (.agg (sgG 12 f)) ?hk ?_); (case hk => rfl); (conv => whnf); (repeat (refine And.intro ?_ ?_; exact sideT; (conv => whnf))); (fail_if_success (with_reducible first | refine And.intro (eqv_i ?_) ?_ | refine And.intro (ren_i ?_) ?_)))) | (((with_reducible refine qCall.reads (cR) [(0, 0), (0, 1), (0, 2), (0, 3), (0, 12)] [] ?hk ?_); (case hk => rfl); (conv => whnf); (repeat (refine And.intro ?_ ?_; exact sideT; (conv => whnf))); (fail_if_success (with_reducible first | refine And.intro (eqv_i ?_) ?_ | refine And.intro (ren_i ?_) ?_)))) | (((with_reducible refine qCall.of (cS) [] [(0, 0), (0, 12)] [] [(1, 14)] [(14, .uniq)] (.agg (sgG 14 f)) ?hk ?_); (case hk => rfl); (conv => whnf); (repeat (refine And.intro ?_ ?_; exact sideT; (conv => whnf))); (fail_if_success (with_reducible first | refine And.intro (eqv_i ?_) ?_ | refine And.intro (ren_i ?_) ?_)))) | (((with_reducible refine qCall.reads (cA) [(0, 0), (0, 7), (0, 8), (0, 9), (0, 14)] [] ?hk ?_); (case hk => rfl); (conv => whnf); (repeat (refine And.intro ?_ ?_; exact sideT; (conv => whnf))); (fail_if_success (with_reducible first | refine And.intro (eqv_i ?_) ?_ | refine And.intro (ren_i ?_) ?_)))) | (((with_reducible refine qCall.reads (cEq) [(0, 0), (0, 12), (0, 14)] [] ?hk ?_); (case hk => rfl); (conv => whnf); (repeat (refine And.intro ?_ ?_; exact sideT; (conv => whnf))); (fail_if_success (with_reducible first | refine And.intro (eqv_i ?_) ?_ | refine And.intro (ren_i ?_) ?_)))) | (((with_reducible refine qCall.of (spS) [] [(0, 0), (1, 14)] [] [] [(14, .dead)] (.tup []) ?hk ?_); (case hk => rfl); (conv => whnf); (repeat (refine And.intro ?_ ?_; exact sideT; (conv => whnf))); (fail_if_success (with_reducible first | refine And.intro (eqv_i ?_) ?_ | refine And.intro (ren_i ?_) ?_))))) <;> (conv => whnf))))
        all_goals as_aux_lemma =>
          refine ⟨(), trivial, ?_⟩
          (refine qConv.of hB [(4, 4), (6, 5), (10, 6), (11, 7)] [(0, 0), (1, 1), (2, 2), (3, 3), (7, 8), (8, 9), (9, 10)] [] (by rfl) ?_; focus ((conv => whnf); (repeat (refine And.intro ?_ ?_; rotate_left; (conv => whnf))); exact trivial; all_goals (try exact andT)))
          all_goals (try exact dt_AhTcpNo2_ROWN)
      | false =>
        ((conv => whnf); (repeat' ((first | (with_reducible first | refine qif_n ?_ | refine qif_t ‹_› ?_ | refine qif_f ‹_› ?_) | ((with_reducible refine qif_t ?_ ?_); focus decide) | ((with_reducible refine qif_f ?_ ?_); focus decide) | (with_reducible refine And.intro (orderOk_i ?ho) ?_; (case ho => kernel_rfl)) | (with_reducible first | refine qif_i (fun _ => ?_) (fun _ => ?_) | refine frcVs_i ?_ | refine frcRs_i ?_) | (((with_reducible refine qCall.reads (cM) [(0, 0), (0, 1), (0, 2), (0, 3)] [] ?hk ?_); (case hk => rfl); (conv => whnf); (repeat (refine And.intro ?_ ?_; exact sideT; (conv => whnf))); (fail_if_success (with_reducible first | refine And.intro (eqv_i ?_) ?_ | refine And.intro (ren_i ?_) ?_)))) | ((with_reducible refine qCall.pure (cW) ?_ ?_ ?_ ?_); rotate_left 4; exact trivial; exact plT; exact plT) | (((with_reducible refine qCall.of (cC) [] [(0, 0), (0, 1), (0, 2), (0, 3)] [] [(1, 7), (2, 8), (3, 9)] [(7, .uniq), (8, .uniq), (9, .uniq)] (.agg (cnG 7 8 9 c)) ?hk ?_); (case hk => rfl); (conv => whnf); (repeat (refine And.intro ?_ ?_; exact sideT; (conv => whnf))); (fail_if_success (with_reducible first | refine And.intro (eqv_i ?_) ?_ | refine And.intro (ren_i ?_) ?_)))) | (((with_reducible refine qCall.of (cF) [] [(0, 0), (0, 1), (0, 2), (0, 3)] [] [(1, 12)] [(12, .uniq)] (.agg (sgG 12 f)) ?hk ?_); (case hk => rfl); (conv => whnf); (repeat (refine And.intro ?_ ?_; exact sideT; (conv => whnf))); (fail_if_success (with_reducible first | refine And.intro (eqv_i ?_) ?_ | refine And.intro (ren_i ?_) ?_)))) | (((with_reducible refine qCall.of (cS) [] [(0, 0), (0, 12)] [] [(1, 14)] [(14, .uniq)] (.agg (sgG 14 f)) ?hk ?_); (case hk => rfl); (conv => whnf); (repeat (refine And.intro ?_ ?_; exact sideT; (conv => whnf))); (fail_if_success (with_reducible first | refine And.intro (eqv_i ?_) ?_ | refine And.intro (ren_i ?_) ?_)))) | (((with_reducible refine qCall.reads (cA) [(0, 0), (0, 7), (0, 8), (0, 9), (0, 14)] [] ?hk ?_); (case hk => rfl); (conv => whnf); (repeat (refine And.intro ?_ ?_; exact sideT; (conv => whnf))); (fail_if_success (with_reducible first | refine And.intro (eqv_i ?_) ?_ | refine And.intro (ren_i ?_) ?_)))) | (((with_reducible refine qCall.reads (cEq) [(0, 0), (0, 12), (0, 14)] [] ?hk ?_); (case hk => rfl); (conv => whnf); (repeat (refine And.intro ?_ ?_; exact sideT; (conv => whnf))); (fail_if_success (with_reducible first | refine And.intro (eqv_i ?_) ?_ | refine And.intro (ren_i ?_) ?_)))) | (((with_reducible refine qCall.of (spS) [] [(0, 0), (1, 14)] [] [] [(14, .dead)] (.tup []) ?hk ?_); (case hk => rfl); (conv => whnf); (repeat (refine And.intro ?_ ?_; exact sideT; (conv => whnf))); (fail_if_success (with_reducible first | refine And.intro (eqv_i ?_) ?_ | refine And.intro (ren_i ?_) ?_))))) <;> (conv => whnf))))
        all_goals as_aux_lemma =>
          refine ⟨(), trivial, ?_⟩
          (refine qConv.of hB [(4, 4), (6, 5), (10, 6), (11, 7)] [(0, 0), (1, 1), (2, 2), (3, 3), (7, 8), (8, 9), (9, 10)] [] (by rfl) ?_; focus ((conv => whnf); (repeat (refine And.intro ?_ ?_; rotate_left; (conv => whnf))); exact trivial; all_goals (try exact andT)))
          all_goals (try exact dt_AhTcpNo2_ROWN)
  · rintro ⟨⟩ -
    refine qAWs.fin mixed (by simp only [chain]; rfl) ?_
    dsimp only [cnR, cnG, cnL]
    ((conv => whnf); (repeat' ((first | (with_reducible first | refine qif_n ?_ | refine qif_t ‹_› ?_ | refine qif_f ‹_› ?_) | ((with_reducible refine qif_t ?_ ?_); focus decide) | ((with_reducible refine qif_f ?_ ?_); focus decide) | (with_reducible refine And.intro (orderOk_i ?ho) ?_; (case ho => kernel_rfl)) | (with_reducible first | refine qif_i (fun _ => ?_) (fun _ => ?_) | refine frcVs_i ?_ | refine frcRs_i ?_) | ((with_reducible refine qCall.pure (num16_l _) ?_ ?_ ?_ ?_); rotate_left 4; exact trivial; exact plT; exact plT) | (((with_reducible refine qCall.reads (cE) [(0, 0), (0, 8), (0, 9), (0, 10), (0, 1), (0, 2), (0, 3)] [] ?hk ?_); (case hk => rfl); (conv => whnf); (repeat (refine And.intro ?_ ?_; exact sideT; (conv => whnf))); (fail_if_success (with_reducible first | refine And.intro (eqv_i ?_) ?_ | refine And.intro (ren_i ?_) ?_))))) <;> (conv => whnf))))
    all_goals (refine qConv.of hB [] [(0, 0), (1, 1), (2, 2), (3, 3)] [] (by rfl) ?_; focus ((conv => whnf); (repeat (refine And.intro ?_ ?_; rotate_left; (conv => whnf))); exact trivial; all_goals (try exact andT)))
    all_goals (try rfl)
    all_goals (try exact dt_AhTcpNo2_ROWN)
theorem stepNo_l (c : Cn) (a : Act) (hc : CnLen c) (ho : c.out.length ≤ 30000) (ha : a.s.data.length ≤ 30000) (hb : a.b.length ≤ 30000) (he : stepE c a ≠ 0) :
    ACallL Tryz.prog 19 [.agg (cnR 0 c), .agg (acR 0 a)] [.perm] (.tup [.agg (cnR 0 c), .val (.bool true)]) [.perm] := by
  have cS := stepNo2_l c a hc ho ha hb he
  have px := pl_bytes c.out
  have py := pl_parts c.parts
  have pz := pl_bytes a.s.data
  have pb := pl_bytes a.b
  dsimp only [cnR, cnL, acR, acL] at cS ⊢
  refine ACallL.of_q (fun a w => Tryz.call19 a w) fun B hB => ?_
  ((with_reducible refine qCall.of (cS) [] [(0, 0), (1, 0), (2, 0), (3, 0)] [] [] [] (.tup [.agg (cnR 0 c), .val (.bool true)]) ?hk ?_); (case hk => rfl); (conv => whnf); (repeat (refine And.intro ?_ ?_; exact sideT; (conv => whnf))); (fail_if_success (with_reducible first | refine And.intro (eqv_i ?_) ?_ | refine And.intro (ren_i ?_) ?_)))
  (refine qConv.of hB [] [(0, 0)] [] (by rfl) ?_; focus ((conv => whnf); (repeat (refine And.intro ?_ ?_; rotate_left; (conv => whnf))); exact trivial; all_goals (try exact andT)))
end Go.Proofs.YtoknaaoioglapaaGreat

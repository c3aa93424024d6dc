/- Contracts and plain laws, one behind the other: AhHeN, HostK, AhHeL, AhHeA, AhHeB, AhHeC, AhHeG, AhHeT, AhHeS, AhHeO. Conditions are said at each. -/
import Derived.Test.YtceohcbokbalhaaGreatAhHeD
import Derived.Test.YtceohcbokbalhaaGreatPkAM
/- An act that is refused: its arms, and what is behind them: on data. Conditions: what may be. -/
-- sideX: first | exact cns_bor rfl rfl rfl _ rfl | exact hsRow_r rfl rfl rfl (cns_pp rfl rfl rfl _) (sns_rr rfl _) (hds_rr rfl _)
namespace Go.Proofs.YtceohcbokbalhaaGreat
open Go.RowKit
set_option linter.unusedVariables false
set_option linter.unusedSimpArgs false
set_option maxRecDepth 100000
set_option maxHeartbeats 16000000
theorem dt_AhHeN_ROWS {p : Prop} (h : p := by first | ((first | rfl | exact Ren.vgnil _ _ | exact hs0_vg rfl (cns_gp rfl rfl rfl _) | exact RowsRen.one (.cons (Ren.glR rfl (cns_gp rfl rfl rfl _)) (.cons (.val _) .nil)) | exact RowsRen.one (.cons (Ren.glR rfl (cns_gg rfl rfl rfl _)) (.cons (.val _) .nil)) | exact hsRow_r rfl rfl rfl (cns_pp rfl rfl rfl _) (sns_rr rfl _) (hds_rr rfl _) | exact RowsRen.one (.cons (Ren.glR rfl (cns_pp rfl rfl rfl _)) (.cons (.val _) .nil)) | exact RowsRen.one (.cons (Ren.lR rfl (cns_pp rfl rfl rfl _)) (.cons (.val _) .nil)) | exact sns_gg rfl _ | (exact rowsT)); done) | fail) : p := h
abbrev noF (e : Int) : List AV := slotsOf 224 [(2, .ptr 5 0 0), (4, .ptr 6 0 0), (5, .val (.bool false)), (6, .ptr 11 0 0), (9, .val (.int .i64 e)), (11, .val (.slice none 0 0)), (12, .val (.slice none 0 0)), (13, .val (.int .i64 e))]
abbrev noG (l : List Cn) (count : Int) : List Own := [.perm, .perm, .perm, .perm, .perm, hoL l count, hoN, .uniq, .uniq, .uniq, .uniq, hoO [.glist 7 16 (l.map (cnG 8 9 10)), .val (.int .i64 count)]]
theorem step7N_l (l : List Cn) (count e : Int) (hll : l.length ≤ 3000) (hc : ∀ c ∈ l, CnLen c) (he : e ≠ 0) (B : Base) (hB : B.h = ofL [.perm, .perm, .perm, .perm, .perm]) :
    qAWs Tryz.prog B ((spineF Tryz.f15).drop 14) (qEnd B (.tup [.agg [.list 1 16 (l.map (cnP 2 3 4)), .val (.int .i64 count)], .val (.bool true)]) [.perm, .perm, .perm, .perm, .perm]) (noF e) (noG l count) := by
  have cE := eqHost_l ⟨l, count⟩ (by dsimp only; omega) hc
  have he1 : (e != e) = false := by simp
  have he2 : (e != 0) = true := by simpa using he
  dsimp only [hoR] at cE ⊢
  refine qAWs.ofF (fn := Tryz.f15) rfl (by simp only [spine, List.cons_append, List.nil_append, List.append_assoc]; rfl) 14 (by simp only [List.drop_succ_cons, List.drop_zero]; rfl) ?_
  refine qAWs.fin mixed (by simp only [chain]; rfl) ?_
  ((conv => whnf); (repeat' ((first | (with_reducible first | refine qif_n ?_ | refine qif_t ‹_› ?_ | refine qif_f ‹_› ?_) | ((with_reducible refine qif_t ?_ ?_); focus decide) | ((with_reducible refine qif_f ?_ ?_); focus decide) | (with_reducible refine And.intro (orderOk_i ?ho) ?_; (case ho => kernel_rfl)) | ((with_reducible refine qif_t ?_ ?_); focus (simp []; done)) | ((with_reducible refine qif_f ?_ ?_); focus (simp []; done)) | (with_reducible first | refine qif_i (fun _ => ?_) (fun _ => ?_) | refine frcVs_i ?_ | refine frcRs_i ?_) | ((with_reducible refine qCall.pure (num17_l _) ?_ ?_ ?_ ?_); rotate_left 4; exact trivial; exact plT; exact plT) | (((with_reducible refine qCall.reads (cE) [(0, 0), (0, 1), (0, 2), (0, 3), (0, 4), (0, 7), (0, 8), (0, 9), (0, 10)] [] ?hk ?_); (case hk => rfl); (conv => whnf); (repeat (refine And.intro ?_ ?_; (focus (first | exact sideT | (first | exact cns_bor rfl rfl rfl _ rfl | exact hsRow_r rfl rfl rfl (cns_pp rfl rfl rfl _) (sns_rr rfl _) (hds_rr rfl _)))); (conv => whnf))); (fail_if_success (with_reducible first | refine And.intro (eqv_i ?_) ?_ | refine And.intro (ren_i ?_) ?_))))) <;> (conv => whnf))))
  as_aux_lemma =>
    (refine qConv.of hB [] [(0, 0), (1, 1), (2, 2), (3, 3), (4, 4)] [] (by rfl) ?_; focus ((conv => whnf); (repeat (refine And.intro ?_ ?_; rotate_left; (conv => whnf))); exact trivial; all_goals (try exact andT)))
    all_goals (try exact dt_AhHeN_ROWS)
    all_goals trace_state
theorem armAbortNo_l (l : List Cn) (count lk : Int) (a : Act7) (hll : l.length ≤ 3000) (hc : ∀ c ∈ l, CnLen c) (he : withErr ⟨l, count⟩ lk (fun _ => 0) ≠ 0) (B : Base) (hB : B.h = ofL [.perm, .perm, .perm, .perm, .perm]) (Q : AExit → List AV → List Own → Prop)
    (hq : qAWs Tryz.prog B ((spineF Tryz.f15).drop 14) Q (noF (withErr ⟨l, count⟩ lk (fun _ => 0))) (noG l count)) :
    qAWs Tryz.prog B ((spineF Tryz.f15).drop 13) Q (stF (hostB ⟨l, count⟩) lk 10) (stG l count a) := by
  have cP := (hostAbort_l ⟨l, count⟩ lk hc (by dsimp only; omega)).1 he
  obtain ⟨e, hee⟩ : ∃ e, withErr ⟨l, count⟩ lk (fun _ => 0) = e := ⟨_, rfl⟩
  rw [hee] at cP he hq
  unfold withErr at hee
  dsimp only [hoR, noHo] at cP
  obtain ⟨sa, hsa⟩ : ∃ r, alR 0 a = r := ⟨_, rfl⟩
  dsimp only [stG]
  rw [hsa]
  refine qAWs.ofF (fn := Tryz.f15) rfl (by simp only [spine, List.cons_append, List.nil_append, List.append_assoc]; rfl) 13 (by simp only [List.drop_succ_cons, List.drop_zero]; rfl) ?_
  refine qAWs.cut mixed 1 (by simp only [List.take_succ_cons, List.take_zero]; rfl) (by simp only [List.drop_succ_cons, List.drop_zero]; rfl) (by simp only [chain]; rfl) rfl (X := Unit) (fun _ => noF e) (fun _ => noG l count) (fun _ => True) ?_ ?_
  rotate_left
  · rintro ⟨⟩ -
    exact qAWs.toF (fn := Tryz.f15) rfl (by simp only [spine, List.cons_append, List.nil_append, List.append_assoc]; rfl) 14 (by simp only [List.drop_succ_cons, List.drop_zero]) hq
  cases hmay : hostB ⟨l, count⟩ with
  | false =>
    rw [hmay, cond_false] at hee
    subst hee
    all_goals ((conv => whnf); (repeat' ((first | (with_reducible first | refine qif_n ?_ | refine qif_t ‹_› ?_ | refine qif_f ‹_› ?_) | ((with_reducible refine qif_t ?_ ?_); focus decide) | ((with_reducible refine qif_f ?_ ?_); focus decide) | (with_reducible refine And.intro (orderOk_i ?ho) ?_; (case ho => kernel_rfl)) | ((with_reducible refine qif_t ?_ ?_); focus (simp []; done)) | ((with_reducible refine qif_f ?_ ?_); focus (simp []; done)) | (with_reducible first | refine qif_i (fun _ => ?_) (fun _ => ?_) | refine frcVs_i ?_ | refine frcRs_i ?_) | (((with_reducible refine qCall.reads (cP) [(0, 0), (0, 8), (0, 9), (0, 10), (0, 11)] [] ?hk ?_); (case hk => rfl); (conv => whnf); (repeat (refine And.intro ?_ ?_; (focus (first | exact sideT | (first | exact cns_bor rfl rfl rfl _ rfl | exact hsRow_r rfl rfl rfl (cns_pp rfl rfl rfl _) (sns_rr rfl _) (hds_rr rfl _)))); (conv => whnf))); (fail_if_success (with_reducible first | refine And.intro (eqv_i ?_) ?_ | refine And.intro (ren_i ?_) ?_))))) <;> (conv => whnf))))
    all_goals refine ⟨(), trivial, ?_⟩
    all_goals as_aux_lemma =>
      (refine qConv.of hB [(5, 5), (7, 6), (12, 11)] [(0, 0), (1, 1), (2, 2), (3, 3), (4, 4), (8, 7), (9, 8), (10, 9), (11, 10)] [] (by rfl) ?_; focus ((conv => whnf); (repeat (refine And.intro ?_ ?_; rotate_left; (conv => whnf))); exact trivial; all_goals (try exact andT)))
      all_goals (try exact dt_AhHeN_ROWS)
      all_goals trace_state
  | true =>
    rw [hmay, cond_true] at hee
    have H := (hostB_iff _).1 hmay
    have hl8 := H.len
    dsimp only at hl8
    have e3 : Ho.at_ ⟨l, count⟩ lk = none ∧ e = 3 := by
      unfold Ho.withE at hee
      cases h : Ho.at_ ⟨l, count⟩ lk with
      | none => rw [h] at hee; exact ⟨rfl, hee.symm⟩
      | some i => rw [h] at hee; exact absurd hee.symm he
    have cR := rHostAbort_no l count lk (by omega) e3.1
    rw [← e3.2] at cR
    dsimp only [hoR] at cR
    all_goals ((conv => whnf); (repeat' ((first | (with_reducible first | refine qif_n ?_ | refine qif_t ‹_› ?_ | refine qif_f ‹_› ?_) | ((with_reducible refine qif_t ?_ ?_); focus decide) | ((with_reducible refine qif_f ?_ ?_); focus decide) | (with_reducible refine And.intro (orderOk_i ?ho) ?_; (case ho => kernel_rfl)) | ((with_reducible refine qif_t ?_ ?_); focus (simp []; done)) | ((with_reducible refine qif_f ?_ ?_); focus (simp []; done)) | (with_reducible first | refine qif_i (fun _ => ?_) (fun _ => ?_) | refine frcVs_i ?_ | refine frcRs_i ?_) | (((with_reducible refine qCall.reads (cR) [(0, 0), (0, 1), (0, 2), (0, 3), (0, 4)] [] ?hk ?_); (case hk => rfl); (conv => whnf); (repeat (refine And.intro ?_ ?_; (focus (first | exact sideT | (first | exact cns_bor rfl rfl rfl _ rfl | exact hsRow_r rfl rfl rfl (cns_pp rfl rfl rfl _) (sns_rr rfl _) (hds_rr rfl _)))); (conv => whnf))); (fail_if_success (with_reducible first | refine And.intro (eqv_i ?_) ?_ | refine And.intro (ren_i ?_) ?_)))) | (((with_reducible refine qCall.reads (cP) [(0, 0), (0, 8), (0, 9), (0, 10), (0, 11)] [] ?hk ?_); (case hk => rfl); (conv => whnf); (repeat (refine And.intro ?_ ?_; (focus (first | exact sideT | (first | exact cns_bor rfl rfl rfl _ rfl | exact hsRow_r rfl rfl rfl (cns_pp rfl rfl rfl _) (sns_rr rfl _) (hds_rr rfl _)))); (conv => whnf))); (fail_if_success (with_reducible first | refine And.intro (eqv_i ?_) ?_ | refine And.intro (ren_i ?_) ?_))))) <;> (conv => whnf))))
    all_goals refine ⟨(), trivial, ?_⟩
    all_goals as_aux_lemma =>
      (refine qConv.of hB [(5, 5), (7, 6), (12, 11)] [(0, 0), (1, 1), (2, 2), (3, 3), (4, 4), (8, 7), (9, 8), (10, 9), (11, 10)] [] (by rfl) ?_; focus ((conv => whnf); (repeat (refine And.intro ?_ ?_; rotate_left; (conv => whnf))); exact trivial; all_goals (try exact andT)))
      all_goals (try exact dt_AhHeN_ROWS)
      all_goals trace_state
theorem armCloseNo_l (l : List Cn) (count lk : Int) (a : Act7) (hll : l.length ≤ 3000) (hc : ∀ c ∈ l, CnLen c) (he : withErr ⟨l, count⟩ lk Cn.closeE ≠ 0) (B : Base) (hB : B.h = ofL [.perm, .perm, .perm, .perm, .perm]) (Q : AExit → List AV → List Own → Prop)
    (hq : qAWs Tryz.prog B ((spineF Tryz.f15).drop 14) Q (noF (withErr ⟨l, count⟩ lk Cn.closeE)) (noG l count)) :
    qAWs Tryz.prog B ((spineF Tryz.f15).drop 13) Q (stF (hostB ⟨l, count⟩) lk 9) (stG l count a) := by
  have cP := (hostClose_l ⟨l, count⟩ lk hc (by dsimp only; omega)).1 he
  obtain ⟨e, hee⟩ : ∃ e, withErr ⟨l, count⟩ lk Cn.closeE = e := ⟨_, rfl⟩
  rw [hee] at cP he hq
  unfold withErr at hee
  dsimp only [hoR, noHo] at cP
  obtain ⟨sa, hsa⟩ : ∃ r, alR 0 a = r := ⟨_, rfl⟩
  dsimp only [stG]
  rw [hsa]
  refine qAWs.ofF (fn := Tryz.f15) rfl (by simp only [spine, List.cons_append, List.nil_append, List.append_assoc]; rfl) 13 (by simp only [List.drop_succ_cons, List.drop_zero]; rfl) ?_
  refine qAWs.cut mixed 1 (by simp only [List.take_succ_cons, List.take_zero]; rfl) (by simp only [List.drop_succ_cons, List.drop_zero]; rfl) (by simp only [chain]; rfl) rfl (X := Unit) (fun _ => noF e) (fun _ => noG l count) (fun _ => True) ?_ ?_
  rotate_left
  · rintro ⟨⟩ -
    exact qAWs.toF (fn := Tryz.f15) rfl (by simp only [spine, List.cons_append, List.nil_append, List.append_assoc]; rfl) 14 (by simp only [List.drop_succ_cons, List.drop_zero]) hq
  cases hmay : hostB ⟨l, count⟩ with
  | false =>
    rw [hmay, cond_false] at hee
    subst hee
    all_goals ((conv => whnf); (repeat' ((first | (with_reducible first | refine qif_n ?_ | refine qif_t ‹_› ?_ | refine qif_f ‹_› ?_) | ((with_reducible refine qif_t ?_ ?_); focus decide) | ((with_reducible refine qif_f ?_ ?_); focus decide) | (with_reducible refine And.intro (orderOk_i ?ho) ?_; (case ho => kernel_rfl)) | ((with_reducible refine qif_t ?_ ?_); focus (simp []; done)) | ((with_reducible refine qif_f ?_ ?_); focus (simp []; done)) | (with_reducible first | refine qif_i (fun _ => ?_) (fun _ => ?_) | refine frcVs_i ?_ | refine frcRs_i ?_) | (((with_reducible refine qCall.reads (cP) [(0, 0), (0, 8), (0, 9), (0, 10), (0, 11)] [] ?hk ?_); (case hk => rfl); (conv => whnf); (repeat (refine And.intro ?_ ?_; (focus (first | exact sideT | (first | exact cns_bor rfl rfl rfl _ rfl | exact hsRow_r rfl rfl rfl (cns_pp rfl rfl rfl _) (sns_rr rfl _) (hds_rr rfl _)))); (conv => whnf))); (fail_if_success (with_reducible first | refine And.intro (eqv_i ?_) ?_ | refine And.intro (ren_i ?_) ?_))))) <;> (conv => whnf))))
    all_goals refine ⟨(), trivial, ?_⟩
    all_goals as_aux_lemma =>
      (refine qConv.of hB [(5, 5), (7, 6), (12, 11)] [(0, 0), (1, 1), (2, 2), (3, 3), (4, 4), (8, 7), (9, 8), (10, 9), (11, 10)] [] (by rfl) ?_; focus ((conv => whnf); (repeat (refine And.intro ?_ ?_; rotate_left; (conv => whnf))); exact trivial; all_goals (try exact andT)))
      all_goals (try exact dt_AhHeN_ROWS)
      all_goals trace_state
  | true =>
    rw [hmay, cond_true] at hee
    have H := (hostB_iff _).1 hmay
    have hl8 := H.len
    dsimp only at hl8
    have cR := rHostClose_no l count lk (by omega) he hee
    dsimp only [hoR] at cR
    all_goals ((conv => whnf); (repeat' ((first | (with_reducible first | refine qif_n ?_ | refine qif_t ‹_› ?_ | refine qif_f ‹_› ?_) | ((with_reducible refine qif_t ?_ ?_); focus decide) | ((with_reducible refine qif_f ?_ ?_); focus decide) | (with_reducible refine And.intro (orderOk_i ?ho) ?_; (case ho => kernel_rfl)) | ((with_reducible refine qif_t ?_ ?_); focus (simp []; done)) | ((with_reducible refine qif_f ?_ ?_); focus (simp []; done)) | (with_reducible first | refine qif_i (fun _ => ?_) (fun _ => ?_) | refine frcVs_i ?_ | refine frcRs_i ?_) | (((with_reducible refine qCall.reads (cR) [(0, 0), (0, 1), (0, 2), (0, 3), (0, 4)] [] ?hk ?_); (case hk => rfl); (conv => whnf); (repeat (refine And.intro ?_ ?_; (focus (first | exact sideT | (first | exact cns_bor rfl rfl rfl _ rfl | exact hsRow_r rfl rfl rfl (cns_pp rfl rfl rfl _) (sns_rr rfl _) (hds_rr rfl _)))); (conv => whnf))); (fail_if_success (with_reducible first | refine And.intro (eqv_i ?_) ?_ | refine And.intro (ren_i ?_) ?_)))) | (((with_reducible refine qCall.reads (cP) [(0, 0), (0, 8), (0, 9), (0, 10), (0, 11)] [] ?hk ?_); (case hk => rfl); (conv => whnf); (repeat (refine And.intro ?_ ?_; (focus (first | exact sideT | (first | exact cns_bor rfl rfl rfl _ rfl | exact hsRow_r rfl rfl rfl (cns_pp rfl rfl rfl _) (sns_rr rfl _) (hds_rr rfl _)))); (conv => whnf))); (fail_if_success (with_reducible first | refine And.intro (eqv_i ?_) ?_ | refine And.intro (ren_i ?_) ?_))))) <;> (conv => whnf))))
    all_goals refine ⟨(), trivial, ?_⟩
    all_goals as_aux_lemma =>
      (refine qConv.of hB [(5, 5), (7, 6), (12, 11)] [(0, 0), (1, 1), (2, 2), (3, 3), (4, 4), (8, 7), (9, 8), (10, 9), (11, 10)] [] (by rfl) ?_; focus ((conv => whnf); (repeat (refine And.intro ?_ ?_; rotate_left; (conv => whnf))); exact trivial; all_goals (try exact andT)))
      all_goals (try exact dt_AhHeN_ROWS)
      all_goals trace_state
theorem armSendNo_l (l : List Cn) (count lk : Int) (a : Act7) (hll : l.length ≤ 3000) (hc : ∀ c ∈ l, CnLen c) (hb : a.b.length ≤ 30000) (k : Int) (hk : k = 7 ∨ k = 8) (he : withErr ⟨l, count⟩ lk (fun c => c.sendE a.b) ≠ 0) (B : Base) (hB : B.h = ofL [.perm, .perm, .perm, .perm, .perm]) (Q : AExit → List AV → List Own → Prop)
    (hq : qAWs Tryz.prog B ((spineF Tryz.f15).drop 14) Q (noF (withErr ⟨l, count⟩ lk (fun c => c.sendE a.b))) (noG l count)) :
    qAWs Tryz.prog B ((spineF Tryz.f15).drop 13) Q (stF (hostB ⟨l, count⟩) lk k) (stG l count a) := by
  have cP := hostSend_no ⟨l, count⟩ lk a.b hc (by dsimp only; omega) (by omega) he
  obtain ⟨e, hee⟩ : ∃ e, withErr ⟨l, count⟩ lk (fun c => c.sendE a.b) = e := ⟨_, rfl⟩
  rw [hee] at cP he hq
  unfold withErr at hee
  dsimp only [hoR, noHo] at cP
  have cY := copyBytes_l a.b (by omega)
  have pb := pl_bytes a.b
  have pz := pl_bytes a.s.data
  dsimp only [stG, alR, alL]
  refine qAWs.ofF (fn := Tryz.f15) rfl (by simp only [spine, List.cons_append, List.nil_append, List.append_assoc]; rfl) 13 (by simp only [List.drop_succ_cons, List.drop_zero]; rfl) ?_
  refine qAWs.cut mixed 1 (by simp only [List.take_succ_cons, List.take_zero]; rfl) (by simp only [List.drop_succ_cons, List.drop_zero]; rfl) (by simp only [chain]; rfl) rfl (X := Unit) (fun _ => noF e) (fun _ => noG l count) (fun _ => True) ?_ ?_
  rotate_left
  · rintro ⟨⟩ -
    exact qAWs.toF (fn := Tryz.f15) rfl (by simp only [spine, List.cons_append, List.nil_append, List.append_assoc]; rfl) 14 (by simp only [List.drop_succ_cons, List.drop_zero]) hq
  cases hmay : hostB ⟨l, count⟩ with
  | false =>
    rw [hmay, cond_false] at hee
    subst hee
    all_goals (rcases hk with rfl | rfl)
    all_goals ((conv => whnf); (repeat' ((first | (with_reducible first | refine qif_n ?_ | refine qif_t ‹_› ?_ | refine qif_f ‹_› ?_) | ((with_reducible refine qif_t ?_ ?_); focus decide) | ((with_reducible refine qif_f ?_ ?_); focus decide) | (with_reducible refine And.intro (orderOk_i ?ho) ?_; (case ho => kernel_rfl)) | ((with_reducible refine qif_t ?_ ?_); focus (simp []; done)) | ((with_reducible refine qif_f ?_ ?_); focus (simp []; done)) | (with_reducible first | refine qif_i (fun _ => ?_) (fun _ => ?_) | refine frcVs_i ?_ | refine frcRs_i ?_) | (((with_reducible refine qCall.fresh (fun r => gL r a.b) (cY) [(0, 0)] [] ?hk ?_); (case hk => rfl); (conv => whnf); (repeat (refine And.intro ?_ ?_; (focus (first | exact sideT | (first | exact cns_bor rfl rfl rfl _ rfl | exact hsRow_r rfl rfl rfl (cns_pp rfl rfl rfl _) (sns_rr rfl _) (hds_rr rfl _)))); (conv => whnf))); (fail_if_success (with_reducible first | refine And.intro (eqv_i ?_) ?_ | refine And.intro (ren_i ?_) ?_)))) | (((with_reducible refine qCall.reads (cP) [(0, 0), (0, 8), (0, 9), (0, 10), (0, 11), (0, 15)] [] ?hk ?_); (case hk => rfl); (conv => whnf); (repeat (refine And.intro ?_ ?_; (focus (first | exact sideT | (first | exact cns_bor rfl rfl rfl _ rfl | exact hsRow_r rfl rfl rfl (cns_pp rfl rfl rfl _) (sns_rr rfl _) (hds_rr rfl _)))); (conv => whnf))); (fail_if_success (with_reducible first | refine And.intro (eqv_i ?_) ?_ | refine And.intro (ren_i ?_) ?_))))) <;> (conv => whnf))))
    all_goals refine ⟨(), trivial, ?_⟩
    all_goals as_aux_lemma =>
      (refine qConv.of hB [(5, 5), (7, 6), (12, 11)] [(0, 0), (1, 1), (2, 2), (3, 3), (4, 4), (8, 7), (9, 8), (10, 9), (11, 10)] [] (by rfl) ?_; focus ((conv => whnf); (repeat (refine And.intro ?_ ?_; rotate_left; (conv => whnf))); exact trivial; all_goals (try exact andT)))
      all_goals (try exact dt_AhHeN_ROWS)
      all_goals trace_state
  | true =>
    rw [hmay, cond_true] at hee
    have H := (hostB_iff _).1 hmay
    have hl8 := H.len
    dsimp only at hl8
    have cR := rHostSend_no l count lk a.b (by omega) (fun c hc => (H.ok c hc).1.I.len) he hee
    dsimp only [hoR] at cR
    all_goals (rcases hk with rfl | rfl)
    all_goals ((conv => whnf); (repeat' ((first | (with_reducible first | refine qif_n ?_ | refine qif_t ‹_› ?_ | refine qif_f ‹_› ?_) | ((with_reducible refine qif_t ?_ ?_); focus decide) | ((with_reducible refine qif_f ?_ ?_); focus decide) | (with_reducible refine And.intro (orderOk_i ?ho) ?_; (case ho => kernel_rfl)) | ((with_reducible refine qif_t ?_ ?_); focus (simp []; done)) | ((with_reducible refine qif_f ?_ ?_); focus (simp []; done)) | (with_reducible first | refine qif_i (fun _ => ?_) (fun _ => ?_) | refine frcVs_i ?_ | refine frcRs_i ?_) | (((with_reducible refine qCall.reads (cR) [(0, 0), (0, 1), (0, 2), (0, 3), (0, 4)] [] ?hk ?_); (case hk => rfl); (conv => whnf); (repeat (refine And.intro ?_ ?_; (focus (first | exact sideT | (first | exact cns_bor rfl rfl rfl _ rfl | exact hsRow_r rfl rfl rfl (cns_pp rfl rfl rfl _) (sns_rr rfl _) (hds_rr rfl _)))); (conv => whnf))); (fail_if_success (with_reducible first | refine And.intro (eqv_i ?_) ?_ | refine And.intro (ren_i ?_) ?_)))) | (((with_reducible refine qCall.fresh (fun r => gL r a.b) (cY) [(0, 0)] [] ?hk ?_); (case hk => rfl); (conv => whnf); (repeat (refine And.intro ?_ ?_; (focus (first | exact sideT | (first | exact cns_bor rfl rfl rfl _ rfl | exact hsRow_r rfl rfl rfl (cns_pp rfl rfl rfl _) (sns_rr rfl _) (hds_rr rfl _)))); (conv => whnf))); (fail_if_success (with_reducible first | refine And.intro (eqv_i ?_) ?_ | refine And.intro (ren_i ?_) ?_)))) | (((with_reducible refine qCall.reads (cP) [(0, 0), (0, 8), (0, 9), (0, 10), (0, 11), (0, 15)] [] ?hk ?_); (case hk => rfl); (conv => whnf); (repeat (refine And.intro ?_ ?_; (focus (first | exact sideT | (first | exact cns_bor rfl rfl rfl _ rfl | exact hsRow_r rfl rfl rfl (cns_pp rfl rfl rfl _) (sns_rr rfl _) (hds_rr rfl _)))); (conv => whnf))); (fail_if_success (with_reducible first | refine And.intro (eqv_i ?_) ?_ | refine And.intro (ren_i ?_) ?_))))) <;> (conv => whnf))))
    all_goals refine ⟨(), trivial, ?_⟩
    all_goals as_aux_lemma =>
      (refine qConv.of hB [(5, 5), (7, 6), (12, 11)] [(0, 0), (1, 1), (2, 2), (3, 3), (4, 4), (8, 7), (9, 8), (10, 9), (11, 10)] [] (by rfl) ?_; focus ((conv => whnf); (repeat (refine And.intro ?_ ?_; rotate_left; (conv => whnf))); exact trivial; all_goals (try exact andT)))
      all_goals (try exact dt_AhHeN_ROWS)
      all_goals trace_state
end Go.Proofs.YtceohcbokbalhaaGreat

/- What a host does with a segment: who stays: plain law. Conditions: what may be. -/
namespace Go.Proofs.YtceohcbokbalhaaGreat
open Go.RowKit
set_option linter.unusedVariables false
set_option linter.unusedSimpArgs false
set_option maxRecDepth 100000
end Go.Proofs.YtceohcbokbalhaaGreat

/- Lengths of what comes of a host; one act on both hosts. Conditions: lengths; what may be. -/
namespace Go.Proofs.YtceohcbokbalhaaGreat
open Go.RowKit
set_option linter.unusedVariables false
set_option linter.unusedSimpArgs false
set_option maxRecDepth 100000
set_option maxHeartbeats 4000000
theorem StI.sent {c : Cn} {y : Stp} {n : Nat} (ip : Int) (h : StI c n y) : (toS ip y.out).length ≤ n ∧ ∀ p ∈ toS ip y.out, p.2.data.length ≤ 1000 := by
  unfold toS
  refine ⟨by rw [List.length_map]; exact h.cnt, fun p hp => ?_⟩
  obtain ⟨m, hm, rfl⟩ := List.mem_map.1 hp
  have := (h.segs m hm).len
  dsimp only
  omega
theorem HsLen.mk' {z : Hs} (H : HoI z.h) (ho : z.out.length ≤ 100000 ∧ ∀ p ∈ z.out, p.2.data.length ≤ 1000) (hd : z.heard.length ≤ 1000 ∧ ∀ x ∈ z.heard, x.data.length ≤ 2048) : HsLen z :=
  ⟨H.len, fun c hc => (H.ok c hc).1.I.cnLen, ho.1, ho.2, hd.1, hd.2⟩
theorem with_len {h : Ho} (H : HoI h) {link : Int} {f : Cn → Stp} (hf : ∀ c, CnI c → c ∈ h.conns → c.link = link → h.conns.getD ((h.at_ link).getD 0) cnZ = c → CnI (f c).c ∧ StI c 8200 (f c)) : HsLen (h.withS link f) := by
  unfold Ho.withS
  cases ha : h.at_ link with
  | none => exact .mk' H ⟨by simp, by simp⟩ ⟨by simp, by simp⟩
  | some i =>
    rw [ha] at hf
    unfold Ho.at_ at ha
    obtain ⟨c, hi, hp, hg⟩ := find_some ha
    dsimp only
    rw [hg]
    have hm := List.mem_of_getElem? hi
    obtain ⟨a, b⟩ := hf c (H.ok c hm).1.I hm (by simpa using hp) (by simpa using hg)
    refine .mk' (H.put hi a b.e1 b.e2 b.e3 b.e4) ?_ ⟨by simp, by simp⟩
    obtain ⟨s1, s2⟩ := b.sent c.ip
    exact ⟨Nat.le_trans s1 (by decide), s2⟩
theorem with_err {h : Ho} {link : Int} {e : Cn → Int} {c : Cn} (he : withErr h link e = 0) : HoI h ∧ (h.conns.getD ((h.at_ link).getD 0) cnZ = c → e c = 0) := by
  unfold withErr at he
  cases hb : hostB h with
  | false => rw [hb] at he; exact absurd (show (1 : Int) = 0 from he) (by decide)
  | true =>
    rw [hb, cond_true] at he
    refine ⟨(hostB_iff _).1 hb, fun hc => ?_⟩
    unfold Ho.withE at he
    cases ha : h.at_ link with
    | none => rw [ha] at he; exact absurd (show (3 : Int) = 0 from he) (by decide)
    | some i =>
      rw [ha] at he hc
      dsimp only at he
      rw [Option.getD_some] at hc
      rw [hc] at he
      exact he
theorem send_len {h : Ho} {link : Int} {xs : List Int} (he : withErr h link (fun c => c.sendE xs) = 0) : HsLen (h.withS link (fun c => c.sends xs)) :=
  with_len (with_err (c := cnZ) he).1 fun c hI _ _ hg => send_I hI ((with_err he).2 hg)
theorem close_len {h : Ho} {link : Int} (he : withErr h link Cn.closeE = 0) : HsLen (h.withS link Cn.closes) :=
  with_len (with_err (c := cnZ) he).1 fun c hI _ _ hg => close_I hI ((with_err he).2 hg)
theorem abort_len {h : Ho} {link : Int} (he : withErr h link (fun _ => 0) = 0) : HsLen (h.withS link Cn.aborts) :=
  with_len (with_err (c := cnZ) he).1 fun c hI _ _ hg => abort_I hI
abbrev stOk (l : List Cn) (count : Int) (a : Act7) (g : Ho) : Prop := ACallL Tryz.prog 15 [.agg [.list 1 16 (l.map (cnP 2 3 4)), .val (.int .i64 count)], .agg (alR 0 a)] [.perm, .perm, .perm, .perm, .perm] (.tup [.agg [.glist 5 16 (g.conns.map (cnP 6 7 8)), .val (.int .i64 g.count)], .val (.bool true)]) [.perm, .perm, .perm, .perm, .perm, .uniq, .uniq, .uniq, .uniq]
abbrev stNot (l : List Cn) (count : Int) (a : Act7) : Prop := ACallL Tryz.prog 15 [.agg [.list 1 16 (l.map (cnP 2 3 4)), .val (.int .i64 count)], .agg (alR 0 a)] [.perm, .perm, .perm, .perm, .perm] (.tup [.agg [.list 1 16 (l.map (cnP 2 3 4)), .val (.int .i64 count)], .val (.bool true)]) [.perm, .perm, .perm, .perm, .perm]
def stAny (l : List Cn) (count : Int) (a : Act7) : Prop := (∃ g : Ho, HoI g ∧ stOk l count a g) ∨ stNot l count a
theorem stNot_of {l : List Cn} {count : Int} {a : Act7} {e : Int} (hll : l.length ≤ 3000) (hc : ∀ c ∈ l, CnLen c) (he : e ≠ 0)
    (H : ∀ B : Base, B.h = ofL [.perm, .perm, .perm, .perm, .perm] → ∀ Q, qAWs Tryz.prog B ((spineF Tryz.f15).drop 14) Q (noF e) (noG l count) → qAWs Tryz.prog B ((spineF Tryz.f15).drop 13) Q (stF (hostB ⟨l, count⟩) (linkOf ⟨l, count⟩ a) (bring a.dw 14)) (stG l count a)) : stNot l count a :=
  step7H_l l count a _ _ hll hc fun B hB => H B hB _ (step7N_l l count e hll hc he B hB)
theorem stOk_of {l : List Cn} {count : Int} {a : Act7} {z : Hs} (hll : l.length ≤ 3000) (hc : ∀ c ∈ l, CnLen c) (hL : HsLen z)
    (H : ∀ B : Base, B.h = ofL [.perm, .perm, .perm, .perm, .perm] → ∀ Q, qAWs Tryz.prog B ((spineF Tryz.f15).drop 14) Q (okF z.out z.heard) (okG l count z.h.conns z.h.count z.out z.heard) → qAWs Tryz.prog B ((spineF Tryz.f15).drop 13) Q (stF (hostB ⟨l, count⟩) (linkOf ⟨l, count⟩ a) (bring a.dw 14)) (stG l count a)) : stOk l count a z.h :=
  step7H_l l count a _ _ hll hc fun B hB => H B hB _ (step7T_l l count z hll hc hL B hB)
end Go.Proofs.YtceohcbokbalhaaGreat

/- A host's connection is aborted, in an act that is done: on data. Conditions: what may be. -/
-- sideX: first | exact cns_bor rfl rfl rfl _ rfl | exact hsRow_r rfl rfl rfl (cns_pp rfl rfl rfl _) (sns_rr rfl _) (hds_rr rfl _)
namespace Go.Proofs.YtceohcbokbalhaaGreat
open Go.RowKit
set_option linter.unusedVariables false
set_option linter.unusedSimpArgs false
set_option maxRecDepth 100000
set_option maxHeartbeats 16000000
theorem dt_AhHeA_ROWS {p : Prop} (h : p := by first | ((first | rfl | exact Ren.vgnil _ _ | exact hs0_vg rfl (cns_gp rfl rfl rfl _) | exact RowsRen.one (.cons (Ren.glR rfl (cns_gp rfl rfl rfl _)) (.cons (.val _) .nil)) | exact RowsRen.one (.cons (Ren.glR rfl (cns_gg rfl rfl rfl _)) (.cons (.val _) .nil)) | exact hsRow_r rfl rfl rfl (cns_pp rfl rfl rfl _) (sns_rr rfl _) (hds_rr rfl _) | exact RowsRen.one (.cons (Ren.glR rfl (cns_pp rfl rfl rfl _)) (.cons (.val _) .nil)) | exact RowsRen.one (.cons (Ren.lR rfl (cns_pp rfl rfl rfl _)) (.cons (.val _) .nil)) | exact sns_gg rfl _ | (exact rowsT)); done) | fail) : p := h
theorem armAbort_l (l : List Cn) (count lk : Int) (a : Act7) (z : Hs) (hll : l.length ≤ 3000) (hc : ∀ c ∈ l, CnLen c) (he : withErr ⟨l, count⟩ lk (fun _ => 0) = 0) (hz : Ho.withS ⟨l, count⟩ lk Cn.aborts = z) (B : Base) (hB : B.h = ofL [.perm, .perm, .perm, .perm, .perm]) (Q : AExit → List AV → List Own → Prop)
    (hq : qAWs Tryz.prog B ((spineF Tryz.f15).drop 14) Q (okF z.out z.heard) (okG l count z.h.conns z.h.count z.out z.heard)) :
    qAWs Tryz.prog B ((spineF Tryz.f15).drop 13) Q (stF (hostB ⟨l, count⟩) lk 10) (stG l count a) := by
  have cP := (hostAbort_l ⟨l, count⟩ lk hc (by dsimp only; omega)).2 he
  rw [hz] at cP
  unfold withErr at he
  cases hmay : hostB ⟨l, count⟩ with
  | false => rw [hmay] at he; simp at he
  | true =>
    rw [hmay, cond_true] at he
    have H := (hostB_iff _).1 hmay
    unfold Ho.withE at he
    cases ha2 : Ho.at_ ⟨l, count⟩ lk with
    | none => rw [ha2] at he; simp at he
    | some i =>
      obtain ⟨c, hci, hp, hg⟩ := find_some ha2
      have cR := rHostAbort_l l count lk H ha2 hci
      have hzz : (⟨Ho.put ⟨l, count⟩ i c.aborts.c, toS c.ip c.aborts.out, []⟩ : Hs) = z := by
        rw [← hz]; unfold Ho.withS; rw [ha2]; dsimp only; rw [hg]
      rw [hzz] at cR
      have hzd : z.heard = [] := (congrArg Hs.heard hzz).symm
      obtain ⟨⟨zl, zc⟩, zo, zd⟩ := z
      dsimp only at hzd hq
      subst hzd
      dsimp only [hoR, hwA, hwH, rhH, hsRow] at cP cR
      obtain ⟨sa, hsa⟩ : ∃ r, alR 0 a = r := ⟨_, rfl⟩
      dsimp only [stG]
      rw [hsa]
      clear hzz hz hp hg he ha2
      refine qAWs.ofF (fn := Tryz.f15) rfl (by simp only [spine, List.cons_append, List.nil_append, List.append_assoc]; rfl) 13 (by simp only [List.drop_succ_cons, List.drop_zero]; rfl) ?_
      refine qAWs.cut mixed 1 (by simp only [List.take_succ_cons, List.take_zero]; rfl) (by simp only [List.drop_succ_cons, List.drop_zero]; rfl) (by simp only [chain]; rfl) rfl (X := Unit) (fun _ => okF zo []) (fun _ => okG l count zl zc zo []) (fun _ => True) ?_ ?_
      · ((conv => whnf); (repeat' ((first | (with_reducible first | refine qif_n ?_ | refine qif_t ‹_› ?_ | refine qif_f ‹_› ?_) | ((with_reducible refine qif_t ?_ ?_); focus decide) | ((with_reducible refine qif_f ?_ ?_); focus decide) | (with_reducible refine And.intro (orderOk_i ?ho) ?_; (case ho => kernel_rfl)) | ((with_reducible refine qif_t ?_ ?_); focus (simp []; done)) | ((with_reducible refine qif_f ?_ ?_); focus (simp []; done)) | (with_reducible first | refine qif_i (fun _ => ?_) (fun _ => ?_) | refine frcVs_i ?_ | refine frcRs_i ?_) | (((with_reducible refine qCall.ofX (cR) [] [(0, 0), (0, 1), (0, 2), (0, 3), (0, 4)] [] [(1, 15), (2, 16), (3, 17), (4, 18), (5, 19), (6, 20), (7, 21), (8, 22), (9, 23)] [(15, hsO (hsRow 16 17 18 19 20 21 22 23 ⟨⟨zl, zc⟩, zo, []⟩)), (16, .uniq), (17, .uniq), (18, .uniq), (19, .uniq), (20, .uniq), (21, .uniq), (22, .uniq), (23, .uniq)] (.tup [.ptr 15 0 0, .val (.int .i64 0)]) [(1, 15)] [(2, 16), (3, 17), (4, 18), (5, 19), (6, 20), (7, 21), (8, 22), (9, 23)] [] ?hk ?h1 ?h2 ?h3 ?_); (case hk => kernel_rfl); (case h1 => kernel_rfl); (case h2 => kernel_rfl); (case h3 => kernel_rfl); (conv => whnf); (repeat (refine And.intro ?_ ?_; (focus (first | exact sideT | (first | exact cns_bor rfl rfl rfl _ rfl | exact hsRow_r rfl rfl rfl (cns_pp rfl rfl rfl _) (sns_rr rfl _) (hds_rr rfl _)))); (conv => whnf))); (fail_if_success (with_reducible first | refine And.intro (eqv_i ?_) ?_ | refine And.intro (ren_i ?_) ?_)))) | (((with_reducible refine qCall.ofX (cP) [] [(0, 0), (0, 8), (0, 9), (0, 10), (0, 11)] [] [(1, 24), (2, 25), (3, 26), (4, 27), (5, 28), (6, 29)] [(24, .uniq), (25, .uniq), (26, .uniq), (27, .uniq), (28, .uniq), (29, .uniq)] (.tup [.agg [.glist 24 16 (zl.map (cnG 25 26 27)), .val (.int .i64 zc)], .glist 28 8 (zo.map (snG 29)), .val (.int .i64 0)]) [] [(1, 24), (2, 25), (3, 26), (4, 27), (5, 28), (6, 29)] [] ?hk ?h1 ?h2 ?h3 ?_); (case hk => kernel_rfl); (case h1 => kernel_rfl); (case h2 => kernel_rfl); (case h3 => kernel_rfl); (conv => whnf); (repeat (refine And.intro ?_ ?_; (focus (first | exact sideT | (first | exact cns_bor rfl rfl rfl _ rfl | exact hsRow_r rfl rfl rfl (cns_pp rfl rfl rfl _) (sns_rr rfl _) (hds_rr rfl _)))); (conv => whnf))); (fail_if_success (with_reducible first | refine And.intro (eqv_i ?_) ?_ | refine And.intro (ren_i ?_) ?_))))) <;> (conv => whnf))))
        refine ⟨(), trivial, ?_⟩
        as_aux_lemma =>
          (refine qConv.of hB [(5, 5), (7, 6), (12, 11), (15, 12), (14, 21)] [(0, 0), (1, 1), (2, 2), (3, 3), (4, 4), (8, 7), (9, 8), (10, 9), (11, 10), (16, 13), (17, 14), (18, 15), (19, 16), (20, 17), (21, 18), (22, 19), (23, 20), (24, 22), (25, 23), (26, 24), (27, 25), (28, 26), (29, 27)] [] (by rfl) ?_; focus ((conv => whnf); (repeat (refine And.intro ?_ ?_; rotate_left; (conv => whnf))); exact trivial; all_goals (try exact andT)))
          all_goals (try exact dt_AhHeA_ROWS)
          all_goals trace_state
      · rintro ⟨⟩ -
        exact qAWs.toF (fn := Tryz.f15) rfl (by simp only [spine, List.cons_append, List.nil_append, List.append_assoc]; rfl) 14 (by simp only [List.drop_succ_cons, List.drop_zero]) hq
end Go.Proofs.YtceohcbokbalhaaGreat

/- A host's connection sends, in an act that is done: on data. Conditions: what may be. -/
-- sideX: first | exact cns_bor rfl rfl rfl _ rfl | exact hsRow_r rfl rfl rfl (cns_pp rfl rfl rfl _) (sns_rr rfl _) (hds_rr rfl _)
namespace Go.Proofs.YtceohcbokbalhaaGreat
open Go.RowKit
set_option linter.unusedVariables false
set_option linter.unusedSimpArgs false
set_option maxRecDepth 100000
set_option maxHeartbeats 16000000
theorem dt_AhHeB_ROWS {p : Prop} (h : p := by first | ((first | rfl | exact Ren.vgnil _ _ | exact hs0_vg rfl (cns_gp rfl rfl rfl _) | exact RowsRen.one (.cons (Ren.glR rfl (cns_gp rfl rfl rfl _)) (.cons (.val _) .nil)) | exact RowsRen.one (.cons (Ren.glR rfl (cns_gg rfl rfl rfl _)) (.cons (.val _) .nil)) | exact hsRow_r rfl rfl rfl (cns_pp rfl rfl rfl _) (sns_rr rfl _) (hds_rr rfl _) | exact RowsRen.one (.cons (Ren.glR rfl (cns_pp rfl rfl rfl _)) (.cons (.val _) .nil)) | exact RowsRen.one (.cons (Ren.lR rfl (cns_pp rfl rfl rfl _)) (.cons (.val _) .nil)) | exact sns_gg rfl _ | (exact rowsT)); done) | fail) : p := h
theorem armSend_l (l : List Cn) (count lk : Int) (a : Act7) (z : Hs) (hll : l.length ≤ 3000) (hc : ∀ c ∈ l, CnLen c) (hb : a.b.length ≤ 30000) (k : Int) (hk : k = 7 ∨ k = 8) (he : withErr ⟨l, count⟩ lk (fun c => c.sendE a.b) = 0) (hz : Ho.withS ⟨l, count⟩ lk (fun c => c.sends a.b) = z) (B : Base) (hB : B.h = ofL [.perm, .perm, .perm, .perm, .perm]) (Q : AExit → List AV → List Own → Prop)
    (hq : qAWs Tryz.prog B ((spineF Tryz.f15).drop 14) Q (okF z.out z.heard) (okG l count z.h.conns z.h.count z.out z.heard)) :
    qAWs Tryz.prog B ((spineF Tryz.f15).drop 13) Q (stF (hostB ⟨l, count⟩) lk k) (stG l count a) := by
  have cP := hostSend_l ⟨l, count⟩ lk a.b hc (by dsimp only; omega) (by omega) he
  rw [hz] at cP
  unfold withErr at he
  cases hmay : hostB ⟨l, count⟩ with
  | false => rw [hmay] at he; simp at he
  | true =>
    rw [hmay, cond_true] at he
    have H := (hostB_iff _).1 hmay
    unfold Ho.withE at he
    cases ha2 : Ho.at_ ⟨l, count⟩ lk with
    | none => rw [ha2] at he; simp at he
    | some i =>
      obtain ⟨c, hci, hp, hg⟩ := find_some ha2
      have he0 : c.sendE a.b = 0 := by rw [ha2] at he; dsimp only at he; rw [hg] at he; exact he
      have cR := rHostSend_l l count lk a.b H ha2 hci he0
      have hzz : (⟨Ho.put ⟨l, count⟩ i (c.sends a.b).c, toS c.ip (c.sends a.b).out, []⟩ : Hs) = z := by
        rw [← hz]; unfold Ho.withS; rw [ha2]; dsimp only; rw [hg]
      rw [hzz] at cR
      have hzd : z.heard = [] := (congrArg Hs.heard hzz).symm
      obtain ⟨⟨zl, zc⟩, zo, zd⟩ := z
      dsimp only at hzd hq
      subst hzd
      dsimp only [hoR, hwA, hwH, rhH, hsRow] at cP cR
      have cY := copyBytes_l a.b (by omega)
      have pb := pl_bytes a.b
      have pz := pl_bytes a.s.data
      dsimp only [stG, alR, alL]
      clear hzz hz hp hg he ha2
      refine qAWs.ofF (fn := Tryz.f15) rfl (by simp only [spine, List.cons_append, List.nil_append, List.append_assoc]; rfl) 13 (by simp only [List.drop_succ_cons, List.drop_zero]; rfl) ?_
      refine qAWs.cut mixed 1 (by simp only [List.take_succ_cons, List.take_zero]; rfl) (by simp only [List.drop_succ_cons, List.drop_zero]; rfl) (by simp only [chain]; rfl) rfl (X := Unit) (fun _ => okF zo []) (fun _ => okG l count zl zc zo []) (fun _ => True) ?_ ?_
      · rcases hk with rfl | rfl
        all_goals ((conv => whnf); (repeat' ((first | (with_reducible first | refine qif_n ?_ | refine qif_t ‹_› ?_ | refine qif_f ‹_› ?_) | ((with_reducible refine qif_t ?_ ?_); focus decide) | ((with_reducible refine qif_f ?_ ?_); focus decide) | (with_reducible refine And.intro (orderOk_i ?ho) ?_; (case ho => kernel_rfl)) | ((with_reducible refine qif_t ?_ ?_); focus (simp []; done)) | ((with_reducible refine qif_f ?_ ?_); focus (simp []; done)) | (with_reducible first | refine qif_i (fun _ => ?_) (fun _ => ?_) | refine frcVs_i ?_ | refine frcRs_i ?_) | (((with_reducible refine qCall.ofX (cR) [] [(0, 0), (0, 1), (0, 2), (0, 3), (0, 4)] [] [(1, 15), (2, 16), (3, 17), (4, 18), (5, 19), (6, 20), (7, 21), (8, 22), (9, 23)] [(15, hsO (hsRow 16 17 18 19 20 21 22 23 ⟨⟨zl, zc⟩, zo, []⟩)), (16, .uniq), (17, .uniq), (18, .uniq), (19, .uniq), (20, .uniq), (21, .uniq), (22, .uniq), (23, .uniq)] (.tup [.ptr 15 0 0, .val (.int .i64 0)]) [(1, 15)] [(2, 16), (3, 17), (4, 18), (5, 19), (6, 20), (7, 21), (8, 22), (9, 23)] [] ?hk ?h1 ?h2 ?h3 ?_); (case hk => kernel_rfl); (case h1 => kernel_rfl); (case h2 => kernel_rfl); (case h3 => kernel_rfl); (conv => whnf); (repeat (refine And.intro ?_ ?_; (focus (first | exact sideT | (first | exact cns_bor rfl rfl rfl _ rfl | exact hsRow_r rfl rfl rfl (cns_pp rfl rfl rfl _) (sns_rr rfl _) (hds_rr rfl _)))); (conv => whnf))); (fail_if_success (with_reducible first | refine And.intro (eqv_i ?_) ?_ | refine And.intro (ren_i ?_) ?_)))) | (((with_reducible refine qCall.fresh (fun r => gL r a.b) (cY) [(0, 0)] [] ?hk ?_); (case hk => rfl); (conv => whnf); (repeat (refine And.intro ?_ ?_; (focus (first | exact sideT | (first | exact cns_bor rfl rfl rfl _ rfl | exact hsRow_r rfl rfl rfl (cns_pp rfl rfl rfl _) (sns_rr rfl _) (hds_rr rfl _)))); (conv => whnf))); (fail_if_success (with_reducible first | refine And.intro (eqv_i ?_) ?_ | refine And.intro (ren_i ?_) ?_)))) | (((with_reducible refine qCall.ofX (cP) [] [(0, 0), (0, 8), (0, 9), (0, 10), (0, 11), (0, 24)] [] [(1, 25), (2, 26), (3, 27), (4, 28), (5, 29), (6, 30)] [(25, .uniq), (26, .uniq), (27, .uniq), (28, .uniq), (29, .uniq), (30, .uniq)] (.tup [.agg [.glist 25 16 (zl.map (cnG 26 27 28)), .val (.int .i64 zc)], .glist 29 8 (zo.map (snG 30)), .val (.int .i64 0)]) [] [(1, 25), (2, 26), (3, 27), (4, 28), (5, 29), (6, 30)] [] ?hk ?h1 ?h2 ?h3 ?_); (case hk => kernel_rfl); (case h1 => kernel_rfl); (case h2 => kernel_rfl); (case h3 => kernel_rfl); (conv => whnf); (repeat (refine And.intro ?_ ?_; (focus (first | exact sideT | (first | exact cns_bor rfl rfl rfl _ rfl | exact hsRow_r rfl rfl rfl (cns_pp rfl rfl rfl _) (sns_rr rfl _) (hds_rr rfl _)))); (conv => whnf))); (fail_if_success (with_reducible first | refine And.intro (eqv_i ?_) ?_ | refine And.intro (ren_i ?_) ?_))))) <;> (conv => whnf))))
        all_goals refine ⟨(), trivial, ?_⟩
        all_goals as_aux_lemma =>
          (refine qConv.of hB [(5, 5), (7, 6), (12, 11), (15, 12), (14, 21)] [(0, 0), (1, 1), (2, 2), (3, 3), (4, 4), (8, 7), (9, 8), (10, 9), (11, 10), (16, 13), (17, 14), (18, 15), (19, 16), (20, 17), (21, 18), (22, 19), (23, 20), (25, 22), (26, 23), (27, 24), (28, 25), (29, 26), (30, 27)] [] (by rfl) ?_; focus ((conv => whnf); (repeat (refine And.intro ?_ ?_; rotate_left; (conv => whnf))); exact trivial; all_goals (try exact andT)))
          all_goals (try exact dt_AhHeB_ROWS)
          all_goals trace_state
      · rintro ⟨⟩ -
        exact qAWs.toF (fn := Tryz.f15) rfl (by simp only [spine, List.cons_append, List.nil_append, List.append_assoc]; rfl) 14 (by simp only [List.drop_succ_cons, List.drop_zero]) hq
end Go.Proofs.YtceohcbokbalhaaGreat

/- A host's connection is closed, in an act that is done: on data. Conditions: what may be. -/
-- sideX: first | exact cns_bor rfl rfl rfl _ rfl | exact hsRow_r rfl rfl rfl (cns_pp rfl rfl rfl _) (sns_rr rfl _) (hds_rr rfl _)
namespace Go.Proofs.YtceohcbokbalhaaGreat
open Go.RowKit
set_option linter.unusedVariables false
set_option linter.unusedSimpArgs false
set_option maxRecDepth 100000
set_option maxHeartbeats 16000000
theorem dt_AhHeC_ROWS {p : Prop} (h : p := by first | ((first | rfl | exact Ren.vgnil _ _ | exact hs0_vg rfl (cns_gp rfl rfl rfl _) | exact RowsRen.one (.cons (Ren.glR rfl (cns_gp rfl rfl rfl _)) (.cons (.val _) .nil)) | exact RowsRen.one (.cons (Ren.glR rfl (cns_gg rfl rfl rfl _)) (.cons (.val _) .nil)) | exact hsRow_r rfl rfl rfl (cns_pp rfl rfl rfl _) (sns_rr rfl _) (hds_rr rfl _) | exact RowsRen.one (.cons (Ren.glR rfl (cns_pp rfl rfl rfl _)) (.cons (.val _) .nil)) | exact RowsRen.one (.cons (Ren.lR rfl (cns_pp rfl rfl rfl _)) (.cons (.val _) .nil)) | exact sns_gg rfl _ | (exact rowsT)); done) | fail) : p := h
theorem armClose_l (l : List Cn) (count lk : Int) (a : Act7) (z : Hs) (hll : l.length ≤ 3000) (hc : ∀ c ∈ l, CnLen c) (he : withErr ⟨l, count⟩ lk Cn.closeE = 0) (hz : Ho.withS ⟨l, count⟩ lk Cn.closes = z) (B : Base) (hB : B.h = ofL [.perm, .perm, .perm, .perm, .perm]) (Q : AExit → List AV → List Own → Prop)
    (hq : qAWs Tryz.prog B ((spineF Tryz.f15).drop 14) Q (okF z.out z.heard) (okG l count z.h.conns z.h.count z.out z.heard)) :
    qAWs Tryz.prog B ((spineF Tryz.f15).drop 13) Q (stF (hostB ⟨l, count⟩) lk 9) (stG l count a) := by
  have cP := (hostClose_l ⟨l, count⟩ lk hc (by dsimp only; omega)).2 he
  rw [hz] at cP
  unfold withErr at he
  cases hmay : hostB ⟨l, count⟩ with
  | false => rw [hmay] at he; simp at he
  | true =>
    rw [hmay, cond_true] at he
    have H := (hostB_iff _).1 hmay
    unfold Ho.withE at he
    cases ha2 : Ho.at_ ⟨l, count⟩ lk with
    | none => rw [ha2] at he; simp at he
    | some i =>
      obtain ⟨c, hci, hp, hg⟩ := find_some ha2
      have he0 : c.closeE = 0 := by rw [ha2] at he; dsimp only at he; rw [hg] at he; exact he
      have cR := rHostClose_l l count lk H ha2 hci he0
      have hzz : (⟨Ho.put ⟨l, count⟩ i c.closes.c, toS c.ip c.closes.out, []⟩ : Hs) = z := by
        rw [← hz]; unfold Ho.withS; rw [ha2]; dsimp only; rw [hg]
      rw [hzz] at cR
      have hzd : z.heard = [] := (congrArg Hs.heard hzz).symm
      obtain ⟨⟨zl, zc⟩, zo, zd⟩ := z
      dsimp only at hzd hq
      subst hzd
      dsimp only [hoR, hwA, hwH, rhH, hsRow] at cP cR
      obtain ⟨sa, hsa⟩ : ∃ r, alR 0 a = r := ⟨_, rfl⟩
      dsimp only [stG]
      rw [hsa]
      clear hzz hz hp hg he ha2
      refine qAWs.ofF (fn := Tryz.f15) rfl (by simp only [spine, List.cons_append, List.nil_append, List.append_assoc]; rfl) 13 (by simp only [List.drop_succ_cons, List.drop_zero]; rfl) ?_
      refine qAWs.cut mixed 1 (by simp only [List.take_succ_cons, List.take_zero]; rfl) (by simp only [List.drop_succ_cons, List.drop_zero]; rfl) (by simp only [chain]; rfl) rfl (X := Unit) (fun _ => okF zo []) (fun _ => okG l count zl zc zo []) (fun _ => True) ?_ ?_
      · ((conv => whnf); (repeat' ((first | (with_reducible first | refine qif_n ?_ | refine qif_t ‹_› ?_ | refine qif_f ‹_› ?_) | ((with_reducible refine qif_t ?_ ?_); focus decide) | ((with_reducible refine qif_f ?_ ?_); focus decide) | (with_reducible refine And.intro (orderOk_i ?ho) ?_; (case ho => kernel_rfl)) | ((with_reducible refine qif_t ?_ ?_); focus (simp []; done)) | ((with_reducible refine qif_f ?_ ?_); focus (simp []; done)) | (with_reducible first | refine qif_i (fun _ => ?_) (fun _ => ?_) | refine frcVs_i ?_ | refine frcRs_i ?_) | (((with_reducible refine qCall.ofX (cR) [] [(0, 0), (0, 1), (0, 2), (0, 3), (0, 4)] [] [(1, 15), (2, 16), (3, 17), (4, 18), (5, 19), (6, 20), (7, 21), (8, 22), (9, 23)] [(15, hsO (hsRow 16 17 18 19 20 21 22 23 ⟨⟨zl, zc⟩, zo, []⟩)), (16, .uniq), (17, .uniq), (18, .uniq), (19, .uniq), (20, .uniq), (21, .uniq), (22, .uniq), (23, .uniq)] (.tup [.ptr 15 0 0, .val (.int .i64 0)]) [(1, 15)] [(2, 16), (3, 17), (4, 18), (5, 19), (6, 20), (7, 21), (8, 22), (9, 23)] [] ?hk ?h1 ?h2 ?h3 ?_); (case hk => kernel_rfl); (case h1 => kernel_rfl); (case h2 => kernel_rfl); (case h3 => kernel_rfl); (conv => whnf); (repeat (refine And.intro ?_ ?_; (focus (first | exact sideT | (first | exact cns_bor rfl rfl rfl _ rfl | exact hsRow_r rfl rfl rfl (cns_pp rfl rfl rfl _) (sns_rr rfl _) (hds_rr rfl _)))); (conv => whnf))); (fail_if_success (with_reducible first | refine And.intro (eqv_i ?_) ?_ | refine And.intro (ren_i ?_) ?_)))) | (((with_reducible refine qCall.ofX (cP) [] [(0, 0), (0, 8), (0, 9), (0, 10), (0, 11)] [] [(1, 24), (2, 25), (3, 26), (4, 27), (5, 28), (6, 29)] [(24, .uniq), (25, .uniq), (26, .uniq), (27, .uniq), (28, .uniq), (29, .uniq)] (.tup [.agg [.glist 24 16 (zl.map (cnG 25 26 27)), .val (.int .i64 zc)], .glist 28 8 (zo.map (snG 29)), .val (.int .i64 0)]) [] [(1, 24), (2, 25), (3, 26), (4, 27), (5, 28), (6, 29)] [] ?hk ?h1 ?h2 ?h3 ?_); (case hk => kernel_rfl); (case h1 => kernel_rfl); (case h2 => kernel_rfl); (case h3 => kernel_rfl); (conv => whnf); (repeat (refine And.intro ?_ ?_; (focus (first | exact sideT | (first | exact cns_bor rfl rfl rfl _ rfl | exact hsRow_r rfl rfl rfl (cns_pp rfl rfl rfl _) (sns_rr rfl _) (hds_rr rfl _)))); (conv => whnf))); (fail_if_success (with_reducible first | refine And.intro (eqv_i ?_) ?_ | refine And.intro (ren_i ?_) ?_))))) <;> (conv => whnf))))
        refine ⟨(), trivial, ?_⟩
        as_aux_lemma =>
          (refine qConv.of hB [(5, 5), (7, 6), (12, 11), (15, 12), (14, 21)] [(0, 0), (1, 1), (2, 2), (3, 3), (4, 4), (8, 7), (9, 8), (10, 9), (11, 10), (16, 13), (17, 14), (18, 15), (19, 16), (20, 17), (21, 18), (22, 19), (23, 20), (24, 22), (25, 23), (26, 24), (27, 25), (28, 26), (29, 27)] [] (by rfl) ?_; focus ((conv => whnf); (repeat (refine And.intro ?_ ?_; rotate_left; (conv => whnf))); exact trivial; all_goals (try exact andT)))
          all_goals (try exact dt_AhHeC_ROWS)
          all_goals trace_state
      · rintro ⟨⟩ -
        exact qAWs.toF (fn := Tryz.f15) rfl (by simp only [spine, List.cons_append, List.nil_append, List.append_assoc]; rfl) 14 (by simp only [List.drop_succ_cons, List.drop_zero]) hq
end Go.Proofs.YtceohcbokbalhaaGreat

/- A tick of a host, in an act that is done: on data. Conditions: what may be. -/
-- sideX: first | exact cns_bor rfl rfl rfl _ rfl | exact hsRow_r rfl rfl rfl (cns_pp rfl rfl rfl _) (sns_rr rfl _) (hds_rr rfl _)
namespace Go.Proofs.YtceohcbokbalhaaGreat
open Go.RowKit
set_option linter.unusedVariables false
set_option linter.unusedSimpArgs false
set_option maxRecDepth 100000
set_option maxHeartbeats 16000000
end Go.Proofs.YtceohcbokbalhaaGreat

/- A host takes a segment, in an act that is done: on data. Conditions: what may be. -/
-- sideX: first | exact cns_bor rfl rfl rfl _ rfl | exact hsRow_r rfl rfl rfl (cns_pp rfl rfl rfl _) (sns_rr rfl _) (hds_rr rfl _)
namespace Go.Proofs.YtceohcbokbalhaaGreat
open Go.RowKit
set_option linter.unusedVariables false
set_option linter.unusedSimpArgs false
set_option maxRecDepth 100000
set_option maxHeartbeats 16000000
end Go.Proofs.YtceohcbokbalhaaGreat

/- An act on both hosts, of each kind. Conditions: lengths. -/
namespace Go.Proofs.YtceohcbokbalhaaGreat
open Go.RowKit
set_option linter.unusedVariables false
set_option linter.unusedSimpArgs false
set_option maxRecDepth 100000
set_option maxHeartbeats 4000000
theorem with_H2 {h : Ho} {link : Int} {e : Cn → Int} {f : Cn → Stp} (he : withErr h link e = 0) (hf : ∀ c, CnI c → e c = 0 → CnI (f c).c ∧ StI c 8200 (f c)) : HoI (h.withS link f).h := by
  obtain ⟨H, h2⟩ := with_err (c := cnZ) he
  unfold Ho.withS
  cases ha : h.at_ link with
  | none => exact H
  | some i =>
    have h3 := fun c => (with_err (c := c) he).2
    rw [ha] at h3
    unfold Ho.at_ at ha
    obtain ⟨c, hi, hp, hg⟩ := find_some ha
    dsimp only
    rw [hg]
    have hm := List.mem_of_getElem? hi
    obtain ⟨a, b⟩ := hf c (H.ok c hm).1.I (h3 c (by simpa using hg))
    exact H.put hi a b.e1 b.e2 b.e3 b.e4
section
variable {l : List Cn} {count : Int} {a : Act7} (hll : l.length ≤ 3000) (hc : ∀ c ∈ l, CnLen c)
include hll hc
theorem abort_any (hk : bring a.dw 14 = 10) : stAny l count a := by
  by_cases he : withErr ⟨l, count⟩ (linkOf ⟨l, count⟩ a) (fun _ => 0) = 0
  · have hL := abort_len he
    refine .inl ⟨_, with_H (with_err (c := cnZ) he).1 fun c hI _ _ _ => abort_I hI, stOk_of hll hc hL fun B hB Q hq => ?_⟩
    rw [hk]
    exact armAbort_l l count _ a _ hll hc he rfl B hB Q hq
  · refine .inr (stNot_of hll hc he fun B hB Q hq => ?_)
    rw [hk]
    exact armAbortNo_l l count _ a hll hc he B hB Q hq
theorem close_any (hk : bring a.dw 14 = 9) : stAny l count a := by
  by_cases he : withErr ⟨l, count⟩ (linkOf ⟨l, count⟩ a) Cn.closeE = 0
  · refine .inl ⟨_, with_H2 he fun c hI e => close_I hI e, stOk_of hll hc (close_len he) fun B hB Q hq => ?_⟩
    rw [hk]
    exact armClose_l l count _ a _ hll hc he rfl B hB Q hq
  · refine .inr (stNot_of hll hc he fun B hB Q hq => ?_)
    rw [hk]
    exact armCloseNo_l l count _ a hll hc he B hB Q hq
theorem send_any (hb : a.b.length ≤ 30000) (hk : bring a.dw 14 = 7 ∨ bring a.dw 14 = 8) : stAny l count a := by
  by_cases he : withErr ⟨l, count⟩ (linkOf ⟨l, count⟩ a) (fun c => c.sendE a.b) = 0
  · exact .inl ⟨_, with_H2 he fun c hI e => send_I hI e, stOk_of hll hc (send_len he) fun B hB Q hq => armSend_l l count _ a _ hll hc hb _ hk he rfl B hB Q hq⟩
  · exact .inr (stNot_of hll hc he fun B hB Q hq => armSendNo_l l count _ a hll hc hb _ hk he B hB Q hq)
end
end Go.Proofs.YtceohcbokbalhaaGreat

/- One kind of act, each on the same host: the laws' loop on data. Condition: lengths that an argument may have. -/
namespace Go.Proofs.YtceohcbokbalhaaGreat
open Go.RowKit
set_option linter.unusedVariables false
set_option linter.unusedSimpArgs false
set_option maxRecDepth 100000
set_option maxHeartbeats 4000000
theorem only7_l (h : Ho) (l : List Act7) (dw : Int) (hh : HoBig h) (hl : ActLen7 l) (hS : ∀ a : Act7, h.conns.length ≤ 3000 → (∀ c ∈ h.conns, CnLen c) → a.s.data.length ≤ 30000 → a.b.length ≤ 30000 → a.dw = dw → stAny h.conns h.count a) :
    ACallL Tryz.prog 9 [.agg (shR h l), .val (.int .i64 dw)] [.perm] (.val (.bool true)) [.perm] := by
  have px := pl_cns h.conns
  have pz := pl_act7 l
  have hlen : (l.map (alR 0)).length = l.length := by simp
  have cH := heavy17_l h l hh hl
  obtain ⟨b, hb⟩ : ∃ b, hv17 h l = b := ⟨_, rfl⟩
  rw [hb] at cH
  dsimp only [shR] at cH ⊢
  cases b with
  | true =>
    refine ACallL.of_ev mixed Tryz.func9 rfl (fun a w => Tryz.call9 a w) (congrArg Array.toList Tryz.results9) Tryz.ntmps9 fun B hB => ?_
    ((conv => whnf); (repeat' ((first | (with_reducible first | refine qif_n ?_ | refine qif_t ‹_› ?_ | refine qif_f ‹_› ?_) | ((with_reducible refine qif_t ?_ ?_); focus decide) | ((with_reducible refine qif_f ?_ ?_); focus decide) | (with_reducible refine And.intro (orderOk_i ?ho) ?_; (case ho => kernel_rfl)) | ((with_reducible refine qif_t ?_ ?_); focus (simp []; done)) | ((with_reducible refine qif_f ?_ ?_); focus (simp []; done)) | (with_reducible first | refine qif_i (fun _ => ?_) (fun _ => ?_) | refine frcVs_i ?_ | refine frcRs_i ?_) | ((with_reducible refine qCall.pure (cH) ?_ ?_ ?_ ?_); rotate_left 4; exact trivial; exact plT; exact plT)) <;> (conv => whnf))))
    all_goals (refine qConv.of hB [] [(0, 0)] [] (by rfl) ?_; focus ((conv => whnf); (repeat (refine And.intro ?_ ?_; rotate_left; (conv => whnf))); exact trivial; all_goals (try exact andT)))
  | false =>
    obtain ⟨h1, h2, h3, h4⟩ := hv17_no hb
    refine ACallL.of_ev mixed Tryz.func9 rfl (fun a w => Tryz.call9 a w) (congrArg Array.toList Tryz.results9) Tryz.ntmps9 fun B hB => ?_
    ((conv => whnf); (repeat' ((first | (with_reducible first | refine qif_n ?_ | refine qif_t ‹_› ?_ | refine qif_f ‹_› ?_) | ((with_reducible refine qif_t ?_ ?_); focus decide) | ((with_reducible refine qif_f ?_ ?_); focus decide) | (with_reducible refine And.intro (orderOk_i ?ho) ?_; (case ho => kernel_rfl)) | ((with_reducible refine qif_t ?_ ?_); focus (simp []; done)) | ((with_reducible refine qif_f ?_ ?_); focus (simp []; done)) | (with_reducible first | refine qif_i (fun _ => ?_) (fun _ => ?_) | refine frcVs_i ?_ | refine frcRs_i ?_) | ((with_reducible refine qCall.pure (cH) ?_ ?_ ?_ ?_); rotate_left 4; exact trivial; exact plT; exact plT)) <;> (conv => whnf))))
    refine qAW.loopE mixed (X := Nat) (fun k => slotsOf 39 [(1, .val (.int .i64 dw)), (2, .ptr 1 0 0), (5, .val (.int .i64 k))]) (fun k => [.perm, .live ⟨3, 27, [shR h l]⟩]) (fun k => k ≤ l.length) (fun k => l.length - k) 0 (Nat.zero_le _) ?_ ?_
    · (refine qConv.of hB [(1, 1)] [(0, 0)] [] (by rfl) ?_; focus ((conv => whnf); (repeat (refine And.intro ?_ ?_; rotate_left; (conv => whnf))); exact trivial; all_goals (try exact andT)))
      all_goals first | rfl | skip
    · rintro E k hk hE
      have w := IntWalk.i64_in (k + 1) (by omega)
      dsimp only [shR]
      by_cases hlt : k < l.length
      · by_cases h14 : (k : Int) < 14
        · obtain ⟨a, hxk⟩ : ∃ p, l[k]? = some p := ⟨_, List.getElem?_eq_getElem hlt⟩
          have hx := h4 _ (List.mem_of_getElem? hxk)
          have hrow : (l.map (alR 0))[(k : Int).toNat]? = some (alR 0 a) := by simp [hxk]
          obtain ⟨a', ha'⟩ : ∃ r : Act7, { a with dw := dw } = r := ⟨_, rfl⟩
          have e1 : a'.s = a.s := by rw [← ha']
          have e2 : a'.b = a.b := by rw [← ha']
          have pza := pl_bytes a.s.data
          have pzb := pl_bytes a.b
          rcases hS a' h1 (fun c hc => (h2 c hc).1) (by rw [e1]; exact hx.1) (by rw [e2]; exact hx.2) (by rw [← ha']) with ⟨g, -, cS⟩ | cS
          · unfold stOk at cS
            subst ha'
            dsimp only [alR, alL] at cS hrow
            subst hE
            ((conv => whnf); (repeat' ((first | (with_reducible first | refine qif_n ?_ | refine qif_t ‹_› ?_ | refine qif_f ‹_› ?_) | ((with_reducible refine qif_t ?_ ?_); focus decide) | ((with_reducible refine qif_f ?_ ?_); focus decide) | (with_reducible refine And.intro (orderOk_i ?ho) ?_; (case ho => kernel_rfl)) | ((with_reducible refine qif_t ?_ ?_); focus (simp [hlt, h14]; done)) | ((with_reducible refine qif_f ?_ ?_); focus (simp [hlt, h14]; done)) | (with_reducible first | refine qif_i (fun _ => ?_) (fun _ => ?_) | refine frcVs_i ?_ | refine frcRs_i ?_) | (refine qCase_i (idxL rfl rfl rfl rfl rfl rfl (by omega) hrow) ?_) | (((with_reducible refine qCall.of (cS) [] [(0, 0), (1, 0), (2, 0), (3, 0), (4, 0)] [] [(5, 3), (6, 4), (7, 5), (8, 6)] [(3, .uniq), (4, .uniq), (5, .uniq), (6, .uniq)] (.tup [.agg [.glist 3 16 (g.conns.map (cnP 4 5 6)), .val (.int .i64 g.count)], .val (.bool true)]) ?hk ?_); (case hk => rfl); (conv => whnf); (repeat (refine And.intro ?_ ?_; exact sideT; (conv => whnf))); (fail_if_success (with_reducible first | refine And.intro (eqv_i ?_) ?_ | refine And.intro (ren_i ?_) ?_))))) <;> (conv => whnf))))
            refine ⟨k + 1, by omega, by omega, ?_⟩
            (refine qConv.of hB [(1, 1)] [(0, 0)] [] (by rfl) ?_; focus ((conv => whnf); (repeat (refine And.intro ?_ ?_; rotate_left; (conv => whnf))); exact trivial; all_goals (try exact andT)))
            all_goals first | rfl | (simp [w]; done) | skip
          · unfold stNot at cS
            subst ha'
            dsimp only [alR, alL] at cS hrow
            subst hE
            ((conv => whnf); (repeat' ((first | (with_reducible first | refine qif_n ?_ | refine qif_t ‹_› ?_ | refine qif_f ‹_› ?_) | ((with_reducible refine qif_t ?_ ?_); focus decide) | ((with_reducible refine qif_f ?_ ?_); focus decide) | (with_reducible refine And.intro (orderOk_i ?ho) ?_; (case ho => kernel_rfl)) | ((with_reducible refine qif_t ?_ ?_); focus (simp [hlt, h14]; done)) | ((with_reducible refine qif_f ?_ ?_); focus (simp [hlt, h14]; done)) | (with_reducible first | refine qif_i (fun _ => ?_) (fun _ => ?_) | refine frcVs_i ?_ | refine frcRs_i ?_) | (refine qCase_i (idxL rfl rfl rfl rfl rfl rfl (by omega) hrow) ?_) | (((with_reducible refine qCall.of (cS) [] [(0, 0), (1, 0), (2, 0), (3, 0), (4, 0)] [] [] [] (.tup [.agg [.list 0 16 (h.conns.map (cnR 0)), .val (.int .i64 h.count)], .val (.bool true)]) ?hk ?_); (case hk => rfl); (conv => whnf); (repeat (refine And.intro ?_ ?_; exact sideT; (conv => whnf))); (fail_if_success (with_reducible first | refine And.intro (eqv_i ?_) ?_ | refine And.intro (ren_i ?_) ?_))))) <;> (conv => whnf))))
            refine ⟨k + 1, by omega, by omega, ?_⟩
            (refine qConv.of hB [(1, 1)] [(0, 0)] [] (by rfl) ?_; focus ((conv => whnf); (repeat (refine And.intro ?_ ?_; rotate_left; (conv => whnf))); exact trivial; all_goals (try exact andT)))
            all_goals first | rfl | (simp [w]; done) | skip
        · subst hE
          ((conv => whnf); (repeat' ((first | (with_reducible first | refine qif_n ?_ | refine qif_t ‹_› ?_ | refine qif_f ‹_› ?_) | ((with_reducible refine qif_t ?_ ?_); focus decide) | ((with_reducible refine qif_f ?_ ?_); focus decide) | (with_reducible refine And.intro (orderOk_i ?ho) ?_; (case ho => kernel_rfl)) | ((with_reducible refine qif_t ?_ ?_); focus (simp [hlt, h14]; done)) | ((with_reducible refine qif_f ?_ ?_); focus (simp [hlt, h14]; done)) | (with_reducible first | refine qif_i (fun _ => ?_) (fun _ => ?_) | refine frcVs_i ?_ | refine frcRs_i ?_) | ((with_reducible refine qCall.pure (wakes17_l) ?_ ?_ ?_ ?_); rotate_left 4; exact trivial; exact plT; exact plT)) <;> (conv => whnf))))
          all_goals (refine qConv.of hB [] [(0, 0)] [] (by rfl) ?_; focus ((conv => whnf); (repeat (refine And.intro ?_ ?_; rotate_left; (conv => whnf))); exact trivial; all_goals (try exact andT)))
      · subst hE
        ((conv => whnf); (repeat' ((first | (with_reducible first | refine qif_n ?_ | refine qif_t ‹_› ?_ | refine qif_f ‹_› ?_) | ((with_reducible refine qif_t ?_ ?_); focus decide) | ((with_reducible refine qif_f ?_ ?_); focus decide) | (with_reducible refine And.intro (orderOk_i ?ho) ?_; (case ho => kernel_rfl)) | ((with_reducible refine qif_t ?_ ?_); focus (simp [hlt]; done)) | ((with_reducible refine qif_f ?_ ?_); focus (simp [hlt]; done)) | (with_reducible first | refine qif_i (fun _ => ?_) (fun _ => ?_) | refine frcVs_i ?_ | refine frcRs_i ?_) | ((with_reducible refine qCall.pure (wakes17_l) ?_ ?_ ?_ ?_); rotate_left 4; exact trivial; exact plT; exact plT)) <;> (conv => whnf))))
        all_goals (refine qConv.of hB [] [(0, 0)] [] (by rfl) ?_; focus ((conv => whnf); (repeat (refine And.intro ?_ ?_; rotate_left; (conv => whnf))); exact trivial; all_goals (try exact andT)))
theorem sends7_law (h : Ho) (l : List Act7) (hh : HoBig h) (hl : ActLen7 l) : ACallL Tryz.prog 4 [.agg (shR h l)] [.perm] (.val (.bool true)) [.perm] := by
  have px := pl_cns h.conns
  have pz := pl_act7 l
  have cO := only7_l h l 7 hh hl fun a h1 h2 ha hb e => send_any h1 h2 hb (by rw [e]; decide)
  dsimp only [shR] at cO ⊢
  refine ACallL.of_ev mixed Tryz.func4 rfl (fun a w => Tryz.call4 a w) (congrArg Array.toList Tryz.results4) Tryz.ntmps4 fun B hB => ?_
  ((conv => whnf); (repeat' ((first | (with_reducible first | refine qif_n ?_ | refine qif_t ‹_› ?_ | refine qif_f ‹_› ?_) | ((with_reducible refine qif_t ?_ ?_); focus decide) | ((with_reducible refine qif_f ?_ ?_); focus decide) | (with_reducible refine And.intro (orderOk_i ?ho) ?_; (case ho => kernel_rfl)) | ((with_reducible refine qif_t ?_ ?_); focus (simp []; done)) | ((with_reducible refine qif_f ?_ ?_); focus (simp []; done)) | (with_reducible first | refine qif_i (fun _ => ?_) (fun _ => ?_) | refine frcVs_i ?_ | refine frcRs_i ?_) | ((with_reducible refine qCall.pure (cO) ?_ ?_ ?_ ?_); rotate_left 4; exact trivial; exact plT; exact plT)) <;> (conv => whnf))))
  all_goals (refine qConv.of hB [] [(0, 0)] [] (by rfl) ?_; focus ((conv => whnf); (repeat (refine And.intro ?_ ?_; rotate_left; (conv => whnf))); exact trivial; all_goals (try exact andT)))
theorem closes7_law (h : Ho) (l : List Act7) (hh : HoBig h) (hl : ActLen7 l) : ACallL Tryz.prog 5 [.agg (shR h l)] [.perm] (.val (.bool true)) [.perm] := by
  have px := pl_cns h.conns
  have pz := pl_act7 l
  have cO := only7_l h l 9 hh hl fun a h1 h2 ha hb e => close_any h1 h2 (by rw [e]; decide)
  dsimp only [shR] at cO ⊢
  refine ACallL.of_ev mixed Tryz.func5 rfl (fun a w => Tryz.call5 a w) (congrArg Array.toList Tryz.results5) Tryz.ntmps5 fun B hB => ?_
  ((conv => whnf); (repeat' ((first | (with_reducible first | refine qif_n ?_ | refine qif_t ‹_› ?_ | refine qif_f ‹_› ?_) | ((with_reducible refine qif_t ?_ ?_); focus decide) | ((with_reducible refine qif_f ?_ ?_); focus decide) | (with_reducible refine And.intro (orderOk_i ?ho) ?_; (case ho => kernel_rfl)) | ((with_reducible refine qif_t ?_ ?_); focus (simp []; done)) | ((with_reducible refine qif_f ?_ ?_); focus (simp []; done)) | (with_reducible first | refine qif_i (fun _ => ?_) (fun _ => ?_) | refine frcVs_i ?_ | refine frcRs_i ?_) | ((with_reducible refine qCall.pure (cO) ?_ ?_ ?_ ?_); rotate_left 4; exact trivial; exact plT; exact plT)) <;> (conv => whnf))))
  all_goals (refine qConv.of hB [] [(0, 0)] [] (by rfl) ?_; focus ((conv => whnf); (repeat (refine And.intro ?_ ?_; rotate_left; (conv => whnf))); exact trivial; all_goals (try exact andT)))
theorem aborts7_law (h : Ho) (l : List Act7) (hh : HoBig h) (hl : ActLen7 l) : ACallL Tryz.prog 6 [.agg (shR h l)] [.perm] (.val (.bool true)) [.perm] := by
  have px := pl_cns h.conns
  have pz := pl_act7 l
  have cO := only7_l h l 10 hh hl fun a h1 h2 ha hb e => abort_any h1 h2 (by rw [e]; decide)
  dsimp only [shR] at cO ⊢
  refine ACallL.of_ev mixed Tryz.func6 rfl (fun a w => Tryz.call6 a w) (congrArg Array.toList Tryz.results6) Tryz.ntmps6 fun B hB => ?_
  ((conv => whnf); (repeat' ((first | (with_reducible first | refine qif_n ?_ | refine qif_t ‹_› ?_ | refine qif_f ‹_› ?_) | ((with_reducible refine qif_t ?_ ?_); focus decide) | ((with_reducible refine qif_f ?_ ?_); focus decide) | (with_reducible refine And.intro (orderOk_i ?ho) ?_; (case ho => kernel_rfl)) | ((with_reducible refine qif_t ?_ ?_); focus (simp []; done)) | ((with_reducible refine qif_f ?_ ?_); focus (simp []; done)) | (with_reducible first | refine qif_i (fun _ => ?_) (fun _ => ?_) | refine frcVs_i ?_ | refine frcRs_i ?_) | ((with_reducible refine qCall.pure (cO) ?_ ?_ ?_ ?_); rotate_left 4; exact trivial; exact plT; exact plT)) <;> (conv => whnf))))
  all_goals (refine qConv.of hB [] [(0, 0)] [] (by rfl) ?_; focus ((conv => whnf); (repeat (refine And.intro ?_ ?_; rotate_left; (conv => whnf))); exact trivial; all_goals (try exact andT)))
end Go.Proofs.YtceohcbokbalhaaGreat

/- A connection that may be stays one, whatever comes: the law's loop on data. Condition: lengths that an argument may have. -/
import Derived.Test.YthkjiihphdpagaaPkAK
import Derived.Test.YthkjiihphdpagaaAhTcpK
namespace Go.Proofs.Ythkjiihphdpagaa
open Go.RowKit
set_option linter.unusedVariables false
set_option linter.unusedSimpArgs false
set_option maxRecDepth 100000
set_option maxHeartbeats 4000000

abbrev scS (c : Cn) (l : List Act) : List AV := cnR 0 c ++ [.list 0 12 (l.map (acR 0))]
abbrev cnP (row : List AV) : Own := .live ⟨16, 33, [row]⟩
theorem errB_eq {c : Cn} {e : Int} (h : errB c e = 0) : cnB c = true ∧ e = 0 := by
  unfold errB at h
  cases hc : cnB c <;> rw [hc] at h
  · exact absurd h (by simp)
  · exact ⟨rfl, h⟩
theorem dt_AhTcpKeeps_ROWK {p : Prop} (h : p := by first | ((first | rfl | exact segs_gg rfl _ | exact bytes_cells _ | exact parts_gg rfl _ | (refine RowsRen.one ?_; (repeat (refine Cells.cons ?_ ?_; focus (first | exact .val _ | exact Ren.gg rfl _ | exact Ren.ll rfl _ | exact Ren.pgl rfl rfl _ | exact Ren.pll rfl rfl _ | fail))); exact Cells.nil) | (simp [w]; done)); done) | fail) : p := h
theorem keeps_l (c : Cn) (l : List Act) (hc : CnBig c) (hl : ActsLen l) : ACallL Try.prog 8 [.agg (scS c l)] [.perm] (.val (.bool true)) [.perm] := by
  have px := pl_bytes c.out
  have py := pl_parts c.parts
  have pz := pl_acts l
  have hlen : (l.map (acR 0)).length = l.length := by simp
  have cH := heavy16_l c l hc hl
  obtain ⟨b, hb⟩ : ∃ b, hv16 c l = b := ⟨_, rfl⟩
  rw [hb] at cH
  dsimp only [scS, cnR, cnL, List.cons_append, List.nil_append] at cH ⊢
  cases b with
  | true =>
    refine ACallL.of_ev mixed Try.func8 rfl (fun a w => Try.call8 a w) (congrArg Array.toList Try.results8) Try.ntmps8 fun B hB => ?_
    ((conv => whnf); (repeat' ((first | (with_reducible first | refine qif_n ?_ | refine qif_t ‹_› ?_ | refine qif_f ‹_› ?_) | ((with_reducible refine qif_t ?_ ?_); focus decide) | ((with_reducible refine qif_f ?_ ?_); focus decide) | (with_reducible refine And.intro (orderOk_i ?ho) ?_; (case ho => kernel_rfl)) | ((with_reducible refine qif_t ?_ ?_); focus (simp []; done)) | ((with_reducible refine qif_f ?_ ?_); focus (simp []; done)) | (with_reducible refine qif_i (fun _ => ?_) (fun _ => ?_)) | (with_reducible refine frcVs_i ?_) | (with_reducible refine frcRs_i ?_) | ((with_reducible refine qCall.pure (cH) ?_ ?_ ?_ ?_); rotate_left 3; rotate_left; exact trivial; exact plT; exact plT)) <;> (conv => whnf))))
    all_goals (refine qConv.of hB [] [(0, 0)] [] (by rfl) ?_; focus ((conv => whnf); (repeat (refine And.intro ?_ ?_; rotate_left; (conv => whnf))); exact trivial; all_goals (try exact andT)))
  | false =>
    obtain ⟨h1, h2, h3, h4⟩ := hv16_no hb
    have cM := refConn_l c h1
    obtain ⟨may, hm⟩ : ∃ b, cnB c = b := ⟨_, rfl⟩
    rw [hm] at cM
    have cC := copyConn_l c h1
    dsimp only [cnR, cnG, cnL] at cM cC
    cases may with
    | false =>
      refine ACallL.of_ev mixed Try.func8 rfl (fun a w => Try.call8 a w) (congrArg Array.toList Try.results8) Try.ntmps8 fun B hB => ?_
      ((conv => whnf); (repeat' ((first | (with_reducible first | refine qif_n ?_ | refine qif_t ‹_› ?_ | refine qif_f ‹_› ?_) | ((with_reducible refine qif_t ?_ ?_); focus decide) | ((with_reducible refine qif_f ?_ ?_); focus decide) | (with_reducible refine And.intro (orderOk_i ?ho) ?_; (case ho => kernel_rfl)) | ((with_reducible refine qif_t ?_ ?_); focus (simp []; done)) | ((with_reducible refine qif_f ?_ ?_); focus (simp []; done)) | (with_reducible refine qif_i (fun _ => ?_) (fun _ => ?_)) | (with_reducible refine frcVs_i ?_) | (with_reducible refine frcRs_i ?_) | ((with_reducible refine qCall.pure (cH) ?_ ?_ ?_ ?_); rotate_left 3; rotate_left; exact trivial; exact plT; exact plT) | ((with_reducible refine qCall.pure (cM) ?_ ?_ ?_ ?_); rotate_left 3; rotate_left; exact trivial; exact plT; exact plT)) <;> (conv => whnf))))
      all_goals (refine qConv.of hB [] [(0, 0)] [] (by rfl) ?_; focus ((conv => whnf); (repeat (refine And.intro ?_ ?_; rotate_left; (conv => whnf))); exact trivial; all_goals (try exact andT)))
    | true =>
      refine ACallL.of_ev mixed Try.func8 rfl (fun a w => Try.call8 a w) (congrArg Array.toList Try.results8) Try.ntmps8 fun B hB => ?_
      ((conv => whnf); (repeat' ((first | (with_reducible first | refine qif_n ?_ | refine qif_t ‹_› ?_ | refine qif_f ‹_› ?_) | ((with_reducible refine qif_t ?_ ?_); focus decide) | ((with_reducible refine qif_f ?_ ?_); focus decide) | (with_reducible refine And.intro (orderOk_i ?ho) ?_; (case ho => kernel_rfl)) | ((with_reducible refine qif_t ?_ ?_); focus (simp []; done)) | ((with_reducible refine qif_f ?_ ?_); focus (simp []; done)) | (with_reducible refine qif_i (fun _ => ?_) (fun _ => ?_)) | (with_reducible refine frcVs_i ?_) | (with_reducible refine frcRs_i ?_) | ((with_reducible refine qCall.pure (cH) ?_ ?_ ?_ ?_); rotate_left 3; rotate_left; exact trivial; exact plT; exact plT) | ((with_reducible refine qCall.pure (cM) ?_ ?_ ?_ ?_); rotate_left 3; rotate_left; exact trivial; exact plT; exact plT) | (((with_reducible refine qCall.of (cC) [] [(0, 0)] [] [(1, 2), (2, 3), (3, 4)] [(2, .uniq), (3, .uniq), (4, .uniq)] (.agg (cnG 2 3 4 c)) ?hk ?_); (case hk => rfl); (conv => whnf); (repeat (refine And.intro ?_ ?_; (focus (exact sideT)); (conv => whnf))); (fail_if_success (with_reducible refine And.intro (eqv_i ?_) ?_)); (fail_if_success (with_reducible refine And.intro (ren_i ?_) ?_))))) <;> (conv => whnf))))
      refine qAW.loopE mixed (X := Nat × Cn) (fun x => slotsOf 154 [(1, .ptr 1 0 0), (3, .ptr 2 0 0), (4, .val (.int .i64 x.1))]) (fun x => [.perm, .live ⟨17, 56, [scS c l]⟩, cnP (cnG 3 4 5 x.2), .uniq, .uniq, .uniq]) (fun x => x.1 ≤ l.length ∧ cnB x.2 = true) (fun x => l.length - x.1) (0, c) ⟨Nat.zero_le _, hm⟩ ?_ ?_
      · have w := hlen
        (refine qConv.of hB [(1, 1), (5, 2)] [(0, 0), (2, 3), (3, 4), (4, 5)] [] (by rfl) ?_; focus ((conv => whnf); (repeat (refine And.intro ?_ ?_; rotate_left; (conv => whnf))); exact trivial; all_goals (try exact andT)))
        all_goals (try exact dt_AhTcpKeeps_ROWK)
      · rintro E ⟨k, cc⟩ ⟨hk, hcc⟩ hE
        dsimp only at hk hcc ⊢
        have w := IntWalk.i64_in (k + 1) (by omega)
        dsimp only [scS, cnR, cnG, cnL, List.cons_append, List.nil_append]
        have hI := (cnB_iff cc).1 hcc
        by_cases hlt : k < l.length
        · by_cases h12 : (k : Int) < 12
          · obtain ⟨a, hxk⟩ : ∃ p, l[k]? = some p := ⟨_, List.getElem?_eq_getElem hlt⟩
            have hx := h4 _ (List.mem_of_getElem? hxk)
            have hrow : (l.map (acR 0))[(k : Int).toNat]? = some (acR 0 a) := by simp [hxk]
            have pza := pl_bytes a.s.data
            have pzb := pl_bytes a.b
            have pco := pl_bytes cc.out
            have pcp := pl_parts cc.parts
            have bk := bring_bd a.dw 5 (by decide)
            have cW := bring_l a.dw 5 (by decide) (by decide)
            obtain ⟨j, hj⟩ : ∃ k, bring a.dw 5 = k := ⟨_, rfl⟩
            rw [hj] at bk cW
            rcases (by omega : j = 0 ∨ j = 1 ∨ j = 2 ∨ (3 ≤ j ∧ j ≤ 4)) with h | h | h | h
            · subst h
              by_cases he : errB cc (cc.sendE a.b) = 0
              · obtain ⟨-, e0⟩ := errB_eq he
                have cP := tcpSend_l cc a.b hcc e0
                obtain ⟨hyI, hyS⟩ := send_I hI e0
                obtain ⟨y, hy⟩ : ∃ r, cc.sends a.b = r := ⟨_, rfl⟩
                rw [hy] at cP hyI hyS
                have hcy := hyI.cnLen
                have cMy := refConn_l y.c hcy
                rw [(cnB_iff y.c).2 hyI] at cMy
                have cCy := copyConn_l y.c hcy
                have pyo := pl_bytes y.c.out
                have pyp := pl_parts y.c.parts
                have hyc := hyS.cnt
                have g1 : (y.c.link != cc.link) = false := by simp [hyS.e1]
                have g2 : (y.c.ip != cc.ip) = false := by simp [hyS.e2]
                have g3 : (y.c.pp != cc.pp) = false := by simp [hyS.e3]
                have g4 : (y.c.port != cc.port) = false := by simp [hyS.e4]
                dsimp only [cnR, cnG, cnL, acR, acL] at cP cMy cCy hrow
                subst hE
                ((conv => whnf); (repeat' ((first | (with_reducible first | refine qif_n ?_ | refine qif_t ‹_› ?_ | refine qif_f ‹_› ?_) | ((with_reducible refine qif_t ?_ ?_); focus decide) | ((with_reducible refine qif_f ?_ ?_); focus decide) | (with_reducible refine And.intro (orderOk_i ?ho) ?_; (case ho => kernel_rfl)) | ((with_reducible refine qif_t ?_ ?_); focus (simp [hlt, h12]; done)) | ((with_reducible refine qif_f ?_ ?_); focus (simp [hlt, h12]; done)) | (with_reducible refine qif_i (fun _ => ?_) (fun _ => ?_)) | (with_reducible refine frcVs_i ?_) | (with_reducible refine frcRs_i ?_) | ((with_reducible refine qCall.pure (cW) ?_ ?_ ?_ ?_); rotate_left 3; rotate_left; exact trivial; exact plT; exact plT) | ((with_reducible refine qCall.pure (num16_l _) ?_ ?_ ?_ ?_); rotate_left 3; rotate_left; exact trivial; exact plT; exact plT) | (refine qCase_i (idxL rfl rfl rfl rfl rfl rfl (by omega) hrow) ?_) | (((with_reducible refine qCall.of (cP) [] [(0, 0), (0, 3), (0, 4), (0, 5)] [] [(1, 8), (2, 9), (3, 10), (4, 11), (5, 12)] [(8, .uniq), (9, .uniq), (10, .uniq), (11, .uniq), (12, .uniq)] (.tup [.agg (cnG 8 9 10 y.c), .glist 11 7 (y.out.map (sgG 12)), .val (.int .i64 0)]) ?hk ?_); (case hk => rfl); (conv => whnf); (repeat (refine And.intro ?_ ?_; (focus (exact sideT)); (conv => whnf))); (fail_if_success (with_reducible refine And.intro (eqv_i ?_) ?_)); (fail_if_success (with_reducible refine And.intro (ren_i ?_) ?_)))) | (((with_reducible refine qCall.reads (cMy) [(0, 0), (0, 8), (0, 9), (0, 10)] [] ?hk ?_); (case hk => rfl); (conv => whnf); (repeat (refine And.intro ?_ ?_; (focus (exact sideT)); (conv => whnf))); (fail_if_success (with_reducible refine And.intro (eqv_i ?_) ?_)); (fail_if_success (with_reducible refine And.intro (ren_i ?_) ?_))))) <;> (conv => whnf))))
                refine qAW.loopE mixed (X := Nat) (fun i => slotsOf 154 [(1, .ptr 1 0 0), (3, .ptr 2 0 0), (4, .val (.int .i64 k)), (6, .ptr 6 0 0), (7, .glist 10 7 (y.out.map (sgG 11))), (9, .val (.int .i64 i))]) (fun i => [.perm, .live ⟨17, 56, [scS c l]⟩, cnP (cnG 3 4 5 cc), .uniq, .uniq, .uniq, cnP (cnG 7 8 9 y.c), .uniq, .uniq, .uniq, .uniq, .uniq]) (fun i => i ≤ y.out.length) (fun i => y.out.length - i) 0 (Nat.zero_le _) ?_ ?_
                · (refine qConv.of hB [(1, 1), (2, 2), (7, 6)] [(0, 0), (3, 3), (4, 4), (5, 5), (8, 7), (9, 8), (10, 9), (11, 10), (12, 11)] [] (by rfl) ?_; focus ((conv => whnf); (repeat (refine And.intro ?_ ?_; rotate_left; (conv => whnf))); exact trivial; all_goals (try exact andT)))
                  all_goals (try exact dt_AhTcpKeeps_ROWK)
                · rintro E2 i hi hE2
                  have w2 := IntWalk.i64_in (i + 1) (by omega)
                  by_cases hlt2 : i < y.out.length
                  · obtain ⟨m, hxm⟩ : ∃ p, y.out[i]? = some p := ⟨_, List.getElem?_eq_getElem hlt2⟩
                    have hrow2 : (y.out.map (sgG 11))[(i : Int).toNat]? = some (sgG 11 m) := by simp [hxm]
                    obtain ⟨q1, q2, q3, q4⟩ := hyS.segs m (List.mem_of_getElem? hxm)
                    have cSg := refSeg_l m
                    rw [q1] at cSg
                    have f1 : (m.sp != cc.port) = false := by simp [q2]
                    have f2 : (m.dp != cc.pp) = false := by simp [q3]
                    have f3 : decide (536 < ((m.data.map bR).length : Int)) = false := by simp; omega
                    have pzm := pl_bytes m.data
                    dsimp only [sgR, sgG, sgL] at cSg hrow2
                    subst hE2
                    ((conv => whnf); (repeat' ((first | (with_reducible first | refine qif_n ?_ | refine qif_t ‹_› ?_ | refine qif_f ‹_› ?_) | ((with_reducible refine qif_t ?_ ?_); focus decide) | ((with_reducible refine qif_f ?_ ?_); focus decide) | (with_reducible refine And.intro (orderOk_i ?ho) ?_; (case ho => kernel_rfl)) | ((with_reducible refine qif_t ?_ ?_); focus (simp [hlt2]; done)) | ((with_reducible refine qif_f ?_ ?_); focus (simp [hlt2]; done)) | (with_reducible refine qif_i (fun _ => ?_) (fun _ => ?_)) | (with_reducible refine frcVs_i ?_) | (with_reducible refine frcRs_i ?_) | (refine qCase_i (idxG rfl rfl rfl rfl rfl rfl (by omega) hrow2) ?_) | (((with_reducible refine qCall.reads (cSg) [(0, 0), (0, 11)] [] ?hk ?_); (case hk => rfl); (conv => whnf); (repeat (refine And.intro ?_ ?_; (focus (exact sideT)); (conv => whnf))); (fail_if_success (with_reducible refine And.intro (eqv_i ?_) ?_)); (fail_if_success (with_reducible refine And.intro (ren_i ?_) ?_))))) <;> (conv => whnf))))
                    refine ⟨i + 1, by omega, by omega, ?_⟩
                    (refine qConv.of hB [(1, 1), (2, 2), (6, 6)] [(0, 0), (3, 3), (4, 4), (5, 5), (7, 7), (8, 8), (9, 9), (10, 10), (11, 11)] [] (by rfl) ?_; focus ((conv => whnf); (repeat (refine And.intro ?_ ?_; rotate_left; (conv => whnf))); exact trivial; all_goals (try exact andT)))
                    all_goals (try simp only [w2])
                    all_goals (try exact dt_AhTcpKeeps_ROWK)
                  · subst hE2
                    ((conv => whnf); (repeat' ((first | (with_reducible first | refine qif_n ?_ | refine qif_t ‹_› ?_ | refine qif_f ‹_› ?_) | ((with_reducible refine qif_t ?_ ?_); focus decide) | ((with_reducible refine qif_f ?_ ?_); focus decide) | (with_reducible refine And.intro (orderOk_i ?ho) ?_; (case ho => kernel_rfl)) | ((with_reducible refine qif_t ?_ ?_); focus (simp [hlt2]; done)) | ((with_reducible refine qif_f ?_ ?_); focus (simp [hlt2]; done)) | (with_reducible refine qif_i (fun _ => ?_) (fun _ => ?_)) | (with_reducible refine frcVs_i ?_) | (with_reducible refine frcRs_i ?_) | (((with_reducible refine qCall.of (cCy) [] [(0, 0), (0, 7), (0, 8), (0, 9)] [] [(1, 12), (2, 13), (3, 14)] [(12, .uniq), (13, .uniq), (14, .uniq)] (.agg (cnG 12 13 14 y.c)) ?hk ?_); (case hk => rfl); (conv => whnf); (repeat (refine And.intro ?_ ?_; (focus (exact sideT)); (conv => whnf))); (fail_if_success (with_reducible refine And.intro (eqv_i ?_) ?_)); (fail_if_success (with_reducible refine And.intro (ren_i ?_) ?_))))) <;> (conv => whnf))))
                    refine ⟨(k + 1, y.c), ⟨by dsimp only; omega, (cnB_iff y.c).2 hyI⟩, by dsimp only; omega, ?_⟩
                    (refine qConv.of hB [(1, 1), (2, 2)] [(0, 0), (12, 3), (13, 4), (14, 5)] [] (by rfl) ?_; focus ((conv => whnf); (repeat (refine And.intro ?_ ?_; rotate_left; (conv => whnf))); exact trivial; all_goals (try exact andT)))
                    all_goals (try exact dt_AhTcpKeeps_ROWK)
              · have cP := tcpSend_no cc a.b hI.cnLen (by omega) (.inr (fun h => he (by unfold errB; rw [hcc, cond_true]; exact h)))
                obtain ⟨e, hee⟩ : ∃ e, errB cc (cc.sendE a.b) = e := ⟨_, rfl⟩
                rw [hee] at cP he
                have he1 : (e != 0) = true := by simpa using he
                dsimp only [cnR, cnG, cnL, acR, acL] at cP hrow
                subst hE
                ((conv => whnf); (repeat' ((first | (with_reducible first | refine qif_n ?_ | refine qif_t ‹_› ?_ | refine qif_f ‹_› ?_) | ((with_reducible refine qif_t ?_ ?_); focus decide) | ((with_reducible refine qif_f ?_ ?_); focus decide) | (with_reducible refine And.intro (orderOk_i ?ho) ?_; (case ho => kernel_rfl)) | ((with_reducible refine qif_t ?_ ?_); focus (simp [hlt, h12]; done)) | ((with_reducible refine qif_f ?_ ?_); focus (simp [hlt, h12]; done)) | (with_reducible refine qif_i (fun _ => ?_) (fun _ => ?_)) | (with_reducible refine frcVs_i ?_) | (with_reducible refine frcRs_i ?_) | ((with_reducible refine qCall.pure (cW) ?_ ?_ ?_ ?_); rotate_left 3; rotate_left; exact trivial; exact plT; exact plT) | ((with_reducible refine qCall.pure (num16_l _) ?_ ?_ ?_ ?_); rotate_left 3; rotate_left; exact trivial; exact plT; exact plT) | (refine qCase_i (idxL rfl rfl rfl rfl rfl rfl (by omega) hrow) ?_) | (((with_reducible refine qCall.reads (cP) [(0, 0), (0, 3), (0, 4), (0, 5)] [] ?hk ?_); (case hk => rfl); (conv => whnf); (repeat (refine And.intro ?_ ?_; (focus (exact sideT)); (conv => whnf))); (fail_if_success (with_reducible refine And.intro (eqv_i ?_) ?_)); (fail_if_success (with_reducible refine And.intro (ren_i ?_) ?_))))) <;> (conv => whnf))))
                refine ⟨(k + 1, cc), ⟨by dsimp only; omega, hcc⟩, by dsimp only; omega, ?_⟩
                (refine qConv.of hB [(1, 1), (2, 2)] [(0, 0), (3, 3), (4, 4), (5, 5)] [] (by rfl) ?_; focus ((conv => whnf); (repeat (refine And.intro ?_ ?_; rotate_left; (conv => whnf))); exact trivial; all_goals (try exact andT)))
                all_goals (try exact dt_AhTcpKeeps_ROWK)
            · subst h
              by_cases he : errB cc cc.closeE = 0
              · obtain ⟨-, e0⟩ := errB_eq he
                have cP := tcpClose_l cc hcc e0
                obtain ⟨hyI, hyS⟩ := close_I hI e0
                obtain ⟨y, hy⟩ : ∃ r, cc.closes = r := ⟨_, rfl⟩
                rw [hy] at cP hyI hyS
                have hcy := hyI.cnLen
                have cMy := refConn_l y.c hcy
                rw [(cnB_iff y.c).2 hyI] at cMy
                have cCy := copyConn_l y.c hcy
                have pyo := pl_bytes y.c.out
                have pyp := pl_parts y.c.parts
                have hyc := hyS.cnt
                have g1 : (y.c.link != cc.link) = false := by simp [hyS.e1]
                have g2 : (y.c.ip != cc.ip) = false := by simp [hyS.e2]
                have g3 : (y.c.pp != cc.pp) = false := by simp [hyS.e3]
                have g4 : (y.c.port != cc.port) = false := by simp [hyS.e4]
                dsimp only [cnR, cnG, cnL, acR, acL] at cP cMy cCy hrow
                subst hE
                ((conv => whnf); (repeat' ((first | (with_reducible first | refine qif_n ?_ | refine qif_t ‹_› ?_ | refine qif_f ‹_› ?_) | ((with_reducible refine qif_t ?_ ?_); focus decide) | ((with_reducible refine qif_f ?_ ?_); focus decide) | (with_reducible refine And.intro (orderOk_i ?ho) ?_; (case ho => kernel_rfl)) | ((with_reducible refine qif_t ?_ ?_); focus (simp [hlt, h12]; done)) | ((with_reducible refine qif_f ?_ ?_); focus (simp [hlt, h12]; done)) | (with_reducible refine qif_i (fun _ => ?_) (fun _ => ?_)) | (with_reducible refine frcVs_i ?_) | (with_reducible refine frcRs_i ?_) | ((with_reducible refine qCall.pure (cW) ?_ ?_ ?_ ?_); rotate_left 3; rotate_left; exact trivial; exact plT; exact plT) | ((with_reducible refine qCall.pure (num16_l _) ?_ ?_ ?_ ?_); rotate_left 3; rotate_left; exact trivial; exact plT; exact plT) | (refine qCase_i (idxL rfl rfl rfl rfl rfl rfl (by omega) hrow) ?_) | (((with_reducible refine qCall.of (cP) [] [(0, 0), (0, 3), (0, 4), (0, 5)] [] [(1, 8), (2, 9), (3, 10), (4, 11), (5, 12)] [(8, .uniq), (9, .uniq), (10, .uniq), (11, .uniq), (12, .uniq)] (.tup [.agg (cnG 8 9 10 y.c), .glist 11 7 (y.out.map (sgG 12)), .val (.int .i64 0)]) ?hk ?_); (case hk => rfl); (conv => whnf); (repeat (refine And.intro ?_ ?_; (focus (exact sideT)); (conv => whnf))); (fail_if_success (with_reducible refine And.intro (eqv_i ?_) ?_)); (fail_if_success (with_reducible refine And.intro (ren_i ?_) ?_)))) | (((with_reducible refine qCall.reads (cMy) [(0, 0), (0, 8), (0, 9), (0, 10)] [] ?hk ?_); (case hk => rfl); (conv => whnf); (repeat (refine And.intro ?_ ?_; (focus (exact sideT)); (conv => whnf))); (fail_if_success (with_reducible refine And.intro (eqv_i ?_) ?_)); (fail_if_success (with_reducible refine And.intro (ren_i ?_) ?_))))) <;> (conv => whnf))))
                refine qAW.loopE mixed (X := Nat) (fun i => slotsOf 154 [(1, .ptr 1 0 0), (3, .ptr 2 0 0), (4, .val (.int .i64 k)), (6, .ptr 6 0 0), (7, .glist 10 7 (y.out.map (sgG 11))), (9, .val (.int .i64 i))]) (fun i => [.perm, .live ⟨17, 56, [scS c l]⟩, cnP (cnG 3 4 5 cc), .uniq, .uniq, .uniq, cnP (cnG 7 8 9 y.c), .uniq, .uniq, .uniq, .uniq, .uniq]) (fun i => i ≤ y.out.length) (fun i => y.out.length - i) 0 (Nat.zero_le _) ?_ ?_
                · (refine qConv.of hB [(1, 1), (2, 2), (7, 6)] [(0, 0), (3, 3), (4, 4), (5, 5), (8, 7), (9, 8), (10, 9), (11, 10), (12, 11)] [] (by rfl) ?_; focus ((conv => whnf); (repeat (refine And.intro ?_ ?_; rotate_left; (conv => whnf))); exact trivial; all_goals (try exact andT)))
                  all_goals (try exact dt_AhTcpKeeps_ROWK)
                · rintro E2 i hi hE2
                  have w2 := IntWalk.i64_in (i + 1) (by omega)
                  by_cases hlt2 : i < y.out.length
                  · obtain ⟨m, hxm⟩ : ∃ p, y.out[i]? = some p := ⟨_, List.getElem?_eq_getElem hlt2⟩
                    have hrow2 : (y.out.map (sgG 11))[(i : Int).toNat]? = some (sgG 11 m) := by simp [hxm]
                    obtain ⟨q1, q2, q3, q4⟩ := hyS.segs m (List.mem_of_getElem? hxm)
                    have cSg := refSeg_l m
                    rw [q1] at cSg
                    have f1 : (m.sp != cc.port) = false := by simp [q2]
                    have f2 : (m.dp != cc.pp) = false := by simp [q3]
                    have f3 : decide (536 < ((m.data.map bR).length : Int)) = false := by simp; omega
                    have pzm := pl_bytes m.data
                    dsimp only [sgR, sgG, sgL] at cSg hrow2
                    subst hE2
                    ((conv => whnf); (repeat' ((first | (with_reducible first | refine qif_n ?_ | refine qif_t ‹_› ?_ | refine qif_f ‹_› ?_) | ((with_reducible refine qif_t ?_ ?_); focus decide) | ((with_reducible refine qif_f ?_ ?_); focus decide) | (with_reducible refine And.intro (orderOk_i ?ho) ?_; (case ho => kernel_rfl)) | ((with_reducible refine qif_t ?_ ?_); focus (simp [hlt2]; done)) | ((with_reducible refine qif_f ?_ ?_); focus (simp [hlt2]; done)) | (with_reducible refine qif_i (fun _ => ?_) (fun _ => ?_)) | (with_reducible refine frcVs_i ?_) | (with_reducible refine frcRs_i ?_) | (refine qCase_i (idxG rfl rfl rfl rfl rfl rfl (by omega) hrow2) ?_) | (((with_reducible refine qCall.reads (cSg) [(0, 0), (0, 11)] [] ?hk ?_); (case hk => rfl); (conv => whnf); (repeat (refine And.intro ?_ ?_; (focus (exact sideT)); (conv => whnf))); (fail_if_success (with_reducible refine And.intro (eqv_i ?_) ?_)); (fail_if_success (with_reducible refine And.intro (ren_i ?_) ?_))))) <;> (conv => whnf))))
                    refine ⟨i + 1, by omega, by omega, ?_⟩
                    (refine qConv.of hB [(1, 1), (2, 2), (6, 6)] [(0, 0), (3, 3), (4, 4), (5, 5), (7, 7), (8, 8), (9, 9), (10, 10), (11, 11)] [] (by rfl) ?_; focus ((conv => whnf); (repeat (refine And.intro ?_ ?_; rotate_left; (conv => whnf))); exact trivial; all_goals (try exact andT)))
                    all_goals (try simp only [w2])
                    all_goals (try exact dt_AhTcpKeeps_ROWK)
                  · subst hE2
                    ((conv => whnf); (repeat' ((first | (with_reducible first | refine qif_n ?_ | refine qif_t ‹_› ?_ | refine qif_f ‹_› ?_) | ((with_reducible refine qif_t ?_ ?_); focus decide) | ((with_reducible refine qif_f ?_ ?_); focus decide) | (with_reducible refine And.intro (orderOk_i ?ho) ?_; (case ho => kernel_rfl)) | ((with_reducible refine qif_t ?_ ?_); focus (simp [hlt2]; done)) | ((with_reducible refine qif_f ?_ ?_); focus (simp [hlt2]; done)) | (with_reducible refine qif_i (fun _ => ?_) (fun _ => ?_)) | (with_reducible refine frcVs_i ?_) | (with_reducible refine frcRs_i ?_) | (((with_reducible refine qCall.of (cCy) [] [(0, 0), (0, 7), (0, 8), (0, 9)] [] [(1, 12), (2, 13), (3, 14)] [(12, .uniq), (13, .uniq), (14, .uniq)] (.agg (cnG 12 13 14 y.c)) ?hk ?_); (case hk => rfl); (conv => whnf); (repeat (refine And.intro ?_ ?_; (focus (exact sideT)); (conv => whnf))); (fail_if_success (with_reducible refine And.intro (eqv_i ?_) ?_)); (fail_if_success (with_reducible refine And.intro (ren_i ?_) ?_))))) <;> (conv => whnf))))
                    refine ⟨(k + 1, y.c), ⟨by dsimp only; omega, (cnB_iff y.c).2 hyI⟩, by dsimp only; omega, ?_⟩
                    (refine qConv.of hB [(1, 1), (2, 2)] [(0, 0), (12, 3), (13, 4), (14, 5)] [] (by rfl) ?_; focus ((conv => whnf); (repeat (refine And.intro ?_ ?_; rotate_left; (conv => whnf))); exact trivial; all_goals (try exact andT)))
                    all_goals (try exact dt_AhTcpKeeps_ROWK)
              · have cP := tcpClose_no cc hI.cnLen (.inr (fun h => he (by unfold errB; rw [hcc, cond_true]; exact h)))
                obtain ⟨e, hee⟩ : ∃ e, errB cc cc.closeE = e := ⟨_, rfl⟩
                rw [hee] at cP he
                have he1 : (e != 0) = true := by simpa using he
                dsimp only [cnR, cnG, cnL, acR, acL] at cP hrow
                subst hE
                ((conv => whnf); (repeat' ((first | (with_reducible first | refine qif_n ?_ | refine qif_t ‹_› ?_ | refine qif_f ‹_› ?_) | ((with_reducible refine qif_t ?_ ?_); focus decide) | ((with_reducible refine qif_f ?_ ?_); focus decide) | (with_reducible refine And.intro (orderOk_i ?ho) ?_; (case ho => kernel_rfl)) | ((with_reducible refine qif_t ?_ ?_); focus (simp [hlt, h12]; done)) | ((with_reducible refine qif_f ?_ ?_); focus (simp [hlt, h12]; done)) | (with_reducible refine qif_i (fun _ => ?_) (fun _ => ?_)) | (with_reducible refine frcVs_i ?_) | (with_reducible refine frcRs_i ?_) | ((with_reducible refine qCall.pure (cW) ?_ ?_ ?_ ?_); rotate_left 3; rotate_left; exact trivial; exact plT; exact plT) | ((with_reducible refine qCall.pure (num16_l _) ?_ ?_ ?_ ?_); rotate_left 3; rotate_left; exact trivial; exact plT; exact plT) | (refine qCase_i (idxL rfl rfl rfl rfl rfl rfl (by omega) hrow) ?_) | (((with_reducible refine qCall.reads (cP) [(0, 0), (0, 3), (0, 4), (0, 5)] [] ?hk ?_); (case hk => rfl); (conv => whnf); (repeat (refine And.intro ?_ ?_; (focus (exact sideT)); (conv => whnf))); (fail_if_success (with_reducible refine And.intro (eqv_i ?_) ?_)); (fail_if_success (with_reducible refine And.intro (ren_i ?_) ?_))))) <;> (conv => whnf))))
                refine ⟨(k + 1, cc), ⟨by dsimp only; omega, hcc⟩, by dsimp only; omega, ?_⟩
                (refine qConv.of hB [(1, 1), (2, 2)] [(0, 0), (3, 3), (4, 4), (5, 5)] [] (by rfl) ?_; focus ((conv => whnf); (repeat (refine And.intro ?_ ?_; rotate_left; (conv => whnf))); exact trivial; all_goals (try exact andT)))
                all_goals (try exact dt_AhTcpKeeps_ROWK)
            · subst h
              have cP := tcpTick_l cc hcc
              obtain ⟨hyI, hyS⟩ := tick_I hI
              obtain ⟨y, hy⟩ : ∃ r, cc.ticks = r := ⟨_, rfl⟩
              rw [hy] at cP hyI hyS
              have hcy := hyI.cnLen
              have cMy := refConn_l y.c hcy
              rw [(cnB_iff y.c).2 hyI] at cMy
              have cCy := copyConn_l y.c hcy
              have pyo := pl_bytes y.c.out
              have pyp := pl_parts y.c.parts
              have hyc := hyS.cnt
              have g1 : (y.c.link != cc.link) = false := by simp [hyS.e1]
              have g2 : (y.c.ip != cc.ip) = false := by simp [hyS.e2]
              have g3 : (y.c.pp != cc.pp) = false := by simp [hyS.e3]
              have g4 : (y.c.port != cc.port) = false := by simp [hyS.e4]
              dsimp only [cnR, cnG, cnL, acR, acL] at cP cMy cCy hrow
              subst hE
              ((conv => whnf); (repeat' ((first | (with_reducible first | refine qif_n ?_ | refine qif_t ‹_› ?_ | refine qif_f ‹_› ?_) | ((with_reducible refine qif_t ?_ ?_); focus decide) | ((with_reducible refine qif_f ?_ ?_); focus decide) | (with_reducible refine And.intro (orderOk_i ?ho) ?_; (case ho => kernel_rfl)) | ((with_reducible refine qif_t ?_ ?_); focus (simp [hlt, h12]; done)) | ((with_reducible refine qif_f ?_ ?_); focus (simp [hlt, h12]; done)) | (with_reducible refine qif_i (fun _ => ?_) (fun _ => ?_)) | (with_reducible refine frcVs_i ?_) | (with_reducible refine frcRs_i ?_) | ((with_reducible refine qCall.pure (cW) ?_ ?_ ?_ ?_); rotate_left 3; rotate_left; exact trivial; exact plT; exact plT) | ((with_reducible refine qCall.pure (num16_l _) ?_ ?_ ?_ ?_); rotate_left 3; rotate_left; exact trivial; exact plT; exact plT) | (refine qCase_i (idxL rfl rfl rfl rfl rfl rfl (by omega) hrow) ?_) | (((with_reducible refine qCall.of (cP) [] [(0, 0), (0, 3), (0, 4), (0, 5)] [] [(1, 8), (2, 9), (3, 10), (4, 11), (5, 12)] [(8, .uniq), (9, .uniq), (10, .uniq), (11, .uniq), (12, .uniq)] (.tup [.agg (cnG 8 9 10 y.c), .glist 11 7 (y.out.map (sgG 12)), .val (.int .i64 0)]) ?hk ?_); (case hk => rfl); (conv => whnf); (repeat (refine And.intro ?_ ?_; (focus (exact sideT)); (conv => whnf))); (fail_if_success (with_reducible refine And.intro (eqv_i ?_) ?_)); (fail_if_success (with_reducible refine And.intro (ren_i ?_) ?_)))) | (((with_reducible refine qCall.reads (cMy) [(0, 0), (0, 8), (0, 9), (0, 10)] [] ?hk ?_); (case hk => rfl); (conv => whnf); (repeat (refine And.intro ?_ ?_; (focus (exact sideT)); (conv => whnf))); (fail_if_success (with_reducible refine And.intro (eqv_i ?_) ?_)); (fail_if_success (with_reducible refine And.intro (ren_i ?_) ?_))))) <;> (conv => whnf))))
              refine qAW.loopE mixed (X := Nat) (fun i => slotsOf 154 [(1, .ptr 1 0 0), (3, .ptr 2 0 0), (4, .val (.int .i64 k)), (6, .ptr 6 0 0), (7, .glist 10 7 (y.out.map (sgG 11))), (9, .val (.int .i64 i))]) (fun i => [.perm, .live ⟨17, 56, [scS c l]⟩, cnP (cnG 3 4 5 cc), .uniq, .uniq, .uniq, cnP (cnG 7 8 9 y.c), .uniq, .uniq, .uniq, .uniq, .uniq]) (fun i => i ≤ y.out.length) (fun i => y.out.length - i) 0 (Nat.zero_le _) ?_ ?_
              · (refine qConv.of hB [(1, 1), (2, 2), (7, 6)] [(0, 0), (3, 3), (4, 4), (5, 5), (8, 7), (9, 8), (10, 9), (11, 10), (12, 11)] [] (by rfl) ?_; focus ((conv => whnf); (repeat (refine And.intro ?_ ?_; rotate_left; (conv => whnf))); exact trivial; all_goals (try exact andT)))
                all_goals (try exact dt_AhTcpKeeps_ROWK)
              · rintro E2 i hi hE2
                have w2 := IntWalk.i64_in (i + 1) (by omega)
                by_cases hlt2 : i < y.out.length
                · obtain ⟨m, hxm⟩ : ∃ p, y.out[i]? = some p := ⟨_, List.getElem?_eq_getElem hlt2⟩
                  have hrow2 : (y.out.map (sgG 11))[(i : Int).toNat]? = some (sgG 11 m) := by simp [hxm]
                  obtain ⟨q1, q2, q3, q4⟩ := hyS.segs m (List.mem_of_getElem? hxm)
                  have cSg := refSeg_l m
                  rw [q1] at cSg
                  have f1 : (m.sp != cc.port) = false := by simp [q2]
                  have f2 : (m.dp != cc.pp) = false := by simp [q3]
                  have f3 : decide (536 < ((m.data.map bR).length : Int)) = false := by simp; omega
                  have pzm := pl_bytes m.data
                  dsimp only [sgR, sgG, sgL] at cSg hrow2
                  subst hE2
                  ((conv => whnf); (repeat' ((first | (with_reducible first | refine qif_n ?_ | refine qif_t ‹_› ?_ | refine qif_f ‹_› ?_) | ((with_reducible refine qif_t ?_ ?_); focus decide) | ((with_reducible refine qif_f ?_ ?_); focus decide) | (with_reducible refine And.intro (orderOk_i ?ho) ?_; (case ho => kernel_rfl)) | ((with_reducible refine qif_t ?_ ?_); focus (simp [hlt2]; done)) | ((with_reducible refine qif_f ?_ ?_); focus (simp [hlt2]; done)) | (with_reducible refine qif_i (fun _ => ?_) (fun _ => ?_)) | (with_reducible refine frcVs_i ?_) | (with_reducible refine frcRs_i ?_) | (refine qCase_i (idxG rfl rfl rfl rfl rfl rfl (by omega) hrow2) ?_) | (((with_reducible refine qCall.reads (cSg) [(0, 0), (0, 11)] [] ?hk ?_); (case hk => rfl); (conv => whnf); (repeat (refine And.intro ?_ ?_; (focus (exact sideT)); (conv => whnf))); (fail_if_success (with_reducible refine And.intro (eqv_i ?_) ?_)); (fail_if_success (with_reducible refine And.intro (ren_i ?_) ?_))))) <;> (conv => whnf))))
                  refine ⟨i + 1, by omega, by omega, ?_⟩
                  (refine qConv.of hB [(1, 1), (2, 2), (6, 6)] [(0, 0), (3, 3), (4, 4), (5, 5), (7, 7), (8, 8), (9, 9), (10, 10), (11, 11)] [] (by rfl) ?_; focus ((conv => whnf); (repeat (refine And.intro ?_ ?_; rotate_left; (conv => whnf))); exact trivial; all_goals (try exact andT)))
                  all_goals (try simp only [w2])
                  all_goals (try exact dt_AhTcpKeeps_ROWK)
                · subst hE2
                  ((conv => whnf); (repeat' ((first | (with_reducible first | refine qif_n ?_ | refine qif_t ‹_› ?_ | refine qif_f ‹_› ?_) | ((with_reducible refine qif_t ?_ ?_); focus decide) | ((with_reducible refine qif_f ?_ ?_); focus decide) | (with_reducible refine And.intro (orderOk_i ?ho) ?_; (case ho => kernel_rfl)) | ((with_reducible refine qif_t ?_ ?_); focus (simp [hlt2]; done)) | ((with_reducible refine qif_f ?_ ?_); focus (simp [hlt2]; done)) | (with_reducible refine qif_i (fun _ => ?_) (fun _ => ?_)) | (with_reducible refine frcVs_i ?_) | (with_reducible refine frcRs_i ?_) | (((with_reducible refine qCall.of (cCy) [] [(0, 0), (0, 7), (0, 8), (0, 9)] [] [(1, 12), (2, 13), (3, 14)] [(12, .uniq), (13, .uniq), (14, .uniq)] (.agg (cnG 12 13 14 y.c)) ?hk ?_); (case hk => rfl); (conv => whnf); (repeat (refine And.intro ?_ ?_; (focus (exact sideT)); (conv => whnf))); (fail_if_success (with_reducible refine And.intro (eqv_i ?_) ?_)); (fail_if_success (with_reducible refine And.intro (ren_i ?_) ?_))))) <;> (conv => whnf))))
                  refine ⟨(k + 1, y.c), ⟨by dsimp only; omega, (cnB_iff y.c).2 hyI⟩, by dsimp only; omega, ?_⟩
                  (refine qConv.of hB [(1, 1), (2, 2)] [(0, 0), (12, 3), (13, 4), (14, 5)] [] (by rfl) ?_; focus ((conv => whnf); (repeat (refine And.intro ?_ ?_; rotate_left; (conv => whnf))); exact trivial; all_goals (try exact andT)))
                  all_goals (try exact dt_AhTcpKeeps_ROWK)
            · obtain ⟨n1, n2, n3⟩ : (j == 0) = false ∧ (j == 1) = false ∧ (j == 2) = false := by
                simp only [beq_eq_false_iff_ne]; omega
              have cF := fit_l cc a hI.cnLen hx.1
              have pzf := pl_bytes (fitS cc a).data
              obtain ⟨f, hfd⟩ : ∃ f, fitS cc a = f := ⟨_, rfl⟩
              rw [hfd] at cF pzf
              cases hf : fitsB cc f with
              | true =>
                have cP := tcpTake_l cc f hcc hf
                have hmf : sgB f = true := by
                  unfold fitsB at hf
                  rw [Bool.and_eq_true] at hf
                  exact hf.1
                have hyI : CnI (cc.takes f).c := take_I (x := cc.start) hI hmf
                have hyS := take_S hI hmf
                obtain ⟨y, hy⟩ : ∃ r, cc.takes f = r := ⟨_, rfl⟩
                rw [hy] at cP hyI hyS
                dsimp only [cnR, cnG, cnL, acR, acL, sgR, sgG, sgL] at cF cP
                have hcy := hyI.cnLen
                have cMy := refConn_l y.c hcy
                rw [(cnB_iff y.c).2 hyI] at cMy
                have cCy := copyConn_l y.c hcy
                have pyo := pl_bytes y.c.out
                have pyp := pl_parts y.c.parts
                have hyc := hyS.cnt
                have g1 : (y.c.link != cc.link) = false := by simp [hyS.e1]
                have g2 : (y.c.ip != cc.ip) = false := by simp [hyS.e2]
                have g3 : (y.c.pp != cc.pp) = false := by simp [hyS.e3]
                have g4 : (y.c.port != cc.port) = false := by simp [hyS.e4]
                dsimp only [cnR, cnG, cnL, acR, acL] at cP cMy cCy hrow
                subst hE
                ((conv => whnf); (repeat' ((first | (with_reducible first | refine qif_n ?_ | refine qif_t ‹_› ?_ | refine qif_f ‹_› ?_) | ((with_reducible refine qif_t ?_ ?_); focus decide) | ((with_reducible refine qif_f ?_ ?_); focus decide) | (with_reducible refine And.intro (orderOk_i ?ho) ?_; (case ho => kernel_rfl)) | ((with_reducible refine qif_t ?_ ?_); focus (simp [hlt, h12]; done)) | ((with_reducible refine qif_f ?_ ?_); focus (simp [hlt, h12]; done)) | (with_reducible refine qif_i (fun _ => ?_) (fun _ => ?_)) | (with_reducible refine frcVs_i ?_) | (with_reducible refine frcRs_i ?_) | ((with_reducible refine qCall.pure (cW) ?_ ?_ ?_ ?_); rotate_left 3; rotate_left; exact trivial; exact plT; exact plT) | ((with_reducible refine qCall.pure (num16_l _) ?_ ?_ ?_ ?_); rotate_left 3; rotate_left; exact trivial; exact plT; exact plT) | (refine qCase_i (idxL rfl rfl rfl rfl rfl rfl (by omega) hrow) ?_) | (((with_reducible refine qCall.of (cF) [] [(0, 0), (0, 3), (0, 4), (0, 5)] [] [(1, 8)] [(8, .uniq)] (.agg (sgG 8 f)) ?hk ?_); (case hk => rfl); (conv => whnf); (repeat (refine And.intro ?_ ?_; (focus (exact sideT)); (conv => whnf))); (fail_if_success (with_reducible refine And.intro (eqv_i ?_) ?_)); (fail_if_success (with_reducible refine And.intro (ren_i ?_) ?_)))) | (((with_reducible refine qCall.of (cP) [] [(0, 0), (0, 3), (0, 4), (0, 5), (0, 8)] [] [(1, 9), (2, 10), (3, 11), (4, 12), (5, 13), (6, 14)] [(9, .uniq), (10, .uniq), (11, .uniq), (12, .uniq), (13, .uniq), (14, .uniq)] (.tup [.agg (cnG 9 10 11 y.c), .glist 12 7 (y.out.map (sgG 13)), gL 14 y.told, .val (.int .i64 0)]) ?hk ?_); (case hk => rfl); (conv => whnf); (repeat (refine And.intro ?_ ?_; (focus (exact sideT)); (conv => whnf))); (fail_if_success (with_reducible refine And.intro (eqv_i ?_) ?_)); (fail_if_success (with_reducible refine And.intro (ren_i ?_) ?_)))) | (((with_reducible refine qCall.reads (cMy) [(0, 0), (0, 9), (0, 10), (0, 11)] [] ?hk ?_); (case hk => rfl); (conv => whnf); (repeat (refine And.intro ?_ ?_; (focus (exact sideT)); (conv => whnf))); (fail_if_success (with_reducible refine And.intro (eqv_i ?_) ?_)); (fail_if_success (with_reducible refine And.intro (ren_i ?_) ?_))))) <;> (conv => whnf))))
                refine qAW.loopE mixed (X := Nat) (fun i => slotsOf 154 [(1, .ptr 1 0 0), (3, .ptr 2 0 0), (4, .val (.int .i64 k)), (6, .ptr 6 0 0), (7, .glist 10 7 (y.out.map (sgG 11))), (9, .val (.int .i64 i))]) (fun i => [.perm, .live ⟨17, 56, [scS c l]⟩, cnP (cnG 3 4 5 cc), .uniq, .uniq, .uniq, cnP (cnG 7 8 9 y.c), .uniq, .uniq, .uniq, .uniq, .uniq]) (fun i => i ≤ y.out.length) (fun i => y.out.length - i) 0 (Nat.zero_le _) ?_ ?_
                · (refine qConv.of hB [(1, 1), (2, 2), (7, 6)] [(0, 0), (3, 3), (4, 4), (5, 5), (9, 7), (10, 8), (11, 9), (12, 10), (13, 11)] [] (by rfl) ?_; focus ((conv => whnf); (repeat (refine And.intro ?_ ?_; rotate_left; (conv => whnf))); exact trivial; all_goals (try exact andT)))
                  all_goals (try exact dt_AhTcpKeeps_ROWK)
                · rintro E2 i hi hE2
                  have w2 := IntWalk.i64_in (i + 1) (by omega)
                  by_cases hlt2 : i < y.out.length
                  · obtain ⟨m, hxm⟩ : ∃ p, y.out[i]? = some p := ⟨_, List.getElem?_eq_getElem hlt2⟩
                    have hrow2 : (y.out.map (sgG 11))[(i : Int).toNat]? = some (sgG 11 m) := by simp [hxm]
                    obtain ⟨q1, q2, q3, q4⟩ := hyS.segs m (List.mem_of_getElem? hxm)
                    have cSg := refSeg_l m
                    rw [q1] at cSg
                    have f1 : (m.sp != cc.port) = false := by simp [q2]
                    have f2 : (m.dp != cc.pp) = false := by simp [q3]
                    have f3 : decide (536 < ((m.data.map bR).length : Int)) = false := by simp; omega
                    have pzm := pl_bytes m.data
                    dsimp only [sgR, sgG, sgL] at cSg hrow2
                    subst hE2
                    ((conv => whnf); (repeat' ((first | (with_reducible first | refine qif_n ?_ | refine qif_t ‹_› ?_ | refine qif_f ‹_› ?_) | ((with_reducible refine qif_t ?_ ?_); focus decide) | ((with_reducible refine qif_f ?_ ?_); focus decide) | (with_reducible refine And.intro (orderOk_i ?ho) ?_; (case ho => kernel_rfl)) | ((with_reducible refine qif_t ?_ ?_); focus (simp [hlt2]; done)) | ((with_reducible refine qif_f ?_ ?_); focus (simp [hlt2]; done)) | (with_reducible refine qif_i (fun _ => ?_) (fun _ => ?_)) | (with_reducible refine frcVs_i ?_) | (with_reducible refine frcRs_i ?_) | (refine qCase_i (idxG rfl rfl rfl rfl rfl rfl (by omega) hrow2) ?_) | (((with_reducible refine qCall.reads (cSg) [(0, 0), (0, 11)] [] ?hk ?_); (case hk => rfl); (conv => whnf); (repeat (refine And.intro ?_ ?_; (focus (exact sideT)); (conv => whnf))); (fail_if_success (with_reducible refine And.intro (eqv_i ?_) ?_)); (fail_if_success (with_reducible refine And.intro (ren_i ?_) ?_))))) <;> (conv => whnf))))
                    refine ⟨i + 1, by omega, by omega, ?_⟩
                    (refine qConv.of hB [(1, 1), (2, 2), (6, 6)] [(0, 0), (3, 3), (4, 4), (5, 5), (7, 7), (8, 8), (9, 9), (10, 10), (11, 11)] [] (by rfl) ?_; focus ((conv => whnf); (repeat (refine And.intro ?_ ?_; rotate_left; (conv => whnf))); exact trivial; all_goals (try exact andT)))
                    all_goals (try simp only [w2])
                    all_goals (try exact dt_AhTcpKeeps_ROWK)
                  · subst hE2
                    ((conv => whnf); (repeat' ((first | (with_reducible first | refine qif_n ?_ | refine qif_t ‹_› ?_ | refine qif_f ‹_› ?_) | ((with_reducible refine qif_t ?_ ?_); focus decide) | ((with_reducible refine qif_f ?_ ?_); focus decide) | (with_reducible refine And.intro (orderOk_i ?ho) ?_; (case ho => kernel_rfl)) | ((with_reducible refine qif_t ?_ ?_); focus (simp [hlt2]; done)) | ((with_reducible refine qif_f ?_ ?_); focus (simp [hlt2]; done)) | (with_reducible refine qif_i (fun _ => ?_) (fun _ => ?_)) | (with_reducible refine frcVs_i ?_) | (with_reducible refine frcRs_i ?_) | (((with_reducible refine qCall.of (cCy) [] [(0, 0), (0, 7), (0, 8), (0, 9)] [] [(1, 12), (2, 13), (3, 14)] [(12, .uniq), (13, .uniq), (14, .uniq)] (.agg (cnG 12 13 14 y.c)) ?hk ?_); (case hk => rfl); (conv => whnf); (repeat (refine And.intro ?_ ?_; (focus (exact sideT)); (conv => whnf))); (fail_if_success (with_reducible refine And.intro (eqv_i ?_) ?_)); (fail_if_success (with_reducible refine And.intro (ren_i ?_) ?_))))) <;> (conv => whnf))))
                    refine ⟨(k + 1, y.c), ⟨by dsimp only; omega, (cnB_iff y.c).2 hyI⟩, by dsimp only; omega, ?_⟩
                    (refine qConv.of hB [(1, 1), (2, 2)] [(0, 0), (12, 3), (13, 4), (14, 5)] [] (by rfl) ?_; focus ((conv => whnf); (repeat (refine And.intro ?_ ?_; rotate_left; (conv => whnf))); exact trivial; all_goals (try exact andT)))
                    all_goals (try exact dt_AhTcpKeeps_ROWK)
              | false =>
                have cP := tcpTake_no cc f hI.cnLen (by rw [hf, Bool.and_false])
                dsimp only [cnR, cnG, cnL, acR, acL, sgR, sgG, sgL] at cF cP hrow
                subst hE
                ((conv => whnf); (repeat' ((first | (with_reducible first | refine qif_n ?_ | refine qif_t ‹_› ?_ | refine qif_f ‹_› ?_) | ((with_reducible refine qif_t ?_ ?_); focus decide) | ((with_reducible refine qif_f ?_ ?_); focus decide) | (with_reducible refine And.intro (orderOk_i ?ho) ?_; (case ho => kernel_rfl)) | ((with_reducible refine qif_t ?_ ?_); focus (simp [hlt, h12]; done)) | ((with_reducible refine qif_f ?_ ?_); focus (simp [hlt, h12]; done)) | (with_reducible refine qif_i (fun _ => ?_) (fun _ => ?_)) | (with_reducible refine frcVs_i ?_) | (with_reducible refine frcRs_i ?_) | ((with_reducible refine qCall.pure (cW) ?_ ?_ ?_ ?_); rotate_left 3; rotate_left; exact trivial; exact plT; exact plT) | ((with_reducible refine qCall.pure (num16_l _) ?_ ?_ ?_ ?_); rotate_left 3; rotate_left; exact trivial; exact plT; exact plT) | (refine qCase_i (idxL rfl rfl rfl rfl rfl rfl (by omega) hrow) ?_) | (((with_reducible refine qCall.of (cF) [] [(0, 0), (0, 3), (0, 4), (0, 5)] [] [(1, 8)] [(8, .uniq)] (.agg (sgG 8 f)) ?hk ?_); (case hk => rfl); (conv => whnf); (repeat (refine And.intro ?_ ?_; (focus (exact sideT)); (conv => whnf))); (fail_if_success (with_reducible refine And.intro (eqv_i ?_) ?_)); (fail_if_success (with_reducible refine And.intro (ren_i ?_) ?_)))) | (((with_reducible refine qCall.reads (cP) [(0, 0), (0, 3), (0, 4), (0, 5), (0, 8)] [] ?hk ?_); (case hk => rfl); (conv => whnf); (repeat (refine And.intro ?_ ?_; (focus (exact sideT)); (conv => whnf))); (fail_if_success (with_reducible refine And.intro (eqv_i ?_) ?_)); (fail_if_success (with_reducible refine And.intro (ren_i ?_) ?_))))) <;> (conv => whnf))))
                refine ⟨(k + 1, cc), ⟨by dsimp only; omega, hcc⟩, by dsimp only; omega, ?_⟩
                (refine qConv.of hB [(1, 1), (2, 2)] [(0, 0), (3, 3), (4, 4), (5, 5)] [] (by rfl) ?_; focus ((conv => whnf); (repeat (refine And.intro ?_ ?_; rotate_left; (conv => whnf))); exact trivial; all_goals (try exact andT)))
                all_goals (try exact dt_AhTcpKeeps_ROWK)
          · subst hE
            ((conv => whnf); (repeat' ((first | (with_reducible first | refine qif_n ?_ | refine qif_t ‹_› ?_ | refine qif_f ‹_› ?_) | ((with_reducible refine qif_t ?_ ?_); focus decide) | ((with_reducible refine qif_f ?_ ?_); focus decide) | (with_reducible refine And.intro (orderOk_i ?ho) ?_; (case ho => kernel_rfl)) | ((with_reducible refine qif_t ?_ ?_); focus (simp [hlt, h12]; done)) | ((with_reducible refine qif_f ?_ ?_); focus (simp [hlt, h12]; done)) | (with_reducible refine qif_i (fun _ => ?_) (fun _ => ?_)) | (with_reducible refine frcVs_i ?_) | (with_reducible refine frcRs_i ?_) | ((with_reducible refine qCall.pure (wakes16_l) ?_ ?_ ?_ ?_); rotate_left 3; rotate_left; exact trivial; exact plT; exact plT)) <;> (conv => whnf))))
            all_goals (refine qConv.of hB [] [(0, 0)] [] (by rfl) ?_; focus ((conv => whnf); (repeat (refine And.intro ?_ ?_; rotate_left; (conv => whnf))); exact trivial; all_goals (try exact andT)))
        · subst hE
          ((conv => whnf); (repeat' ((first | (with_reducible first | refine qif_n ?_ | refine qif_t ‹_› ?_ | refine qif_f ‹_› ?_) | ((with_reducible refine qif_t ?_ ?_); focus decide) | ((with_reducible refine qif_f ?_ ?_); focus decide) | (with_reducible refine And.intro (orderOk_i ?ho) ?_; (case ho => kernel_rfl)) | ((with_reducible refine qif_t ?_ ?_); focus (simp [hlt]; done)) | ((with_reducible refine qif_f ?_ ?_); focus (simp [hlt]; done)) | (with_reducible refine qif_i (fun _ => ?_) (fun _ => ?_)) | (with_reducible refine frcVs_i ?_) | (with_reducible refine frcRs_i ?_) | ((with_reducible refine qCall.pure (wakes16_l) ?_ ?_ ?_ ?_); rotate_left 3; rotate_left; exact trivial; exact plT; exact plT)) <;> (conv => whnf))))
          all_goals (refine qConv.of hB [] [(0, 0)] [] (by rfl) ?_; focus ((conv => whnf); (repeat (refine And.intro ?_ ?_; rotate_left; (conv => whnf))); exact trivial; all_goals (try exact andT)))
end Go.Proofs.Ythkjiihphdpagaa

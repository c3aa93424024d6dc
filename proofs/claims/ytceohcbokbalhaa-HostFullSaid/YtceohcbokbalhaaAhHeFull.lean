/- There is room for so many: on data. No condition but lengths. -/
import Derived.Test.YtceohcbokbalhaaHostF
import Derived.Test.YtceohcbokbalhaaPkAO
import Derived.Test.YtceohcbokbalhaaAhiC
-- sideX: first | exact cns_bor rfl rfl rfl _ rfl
namespace Go.Proofs.Ytceohcbokbalhaa
open Go.RowKit
set_option linter.unusedVariables false
set_option linter.unusedSimpArgs false
set_option maxRecDepth 100000
set_option maxHeartbeats 16000000
theorem dt_AhHeFull_ROWK {p : Prop} (h : p := by first | ((first | rfl | exact RowsRen.one (.cons (Ren.vgnil _ _) (.cons (.val _) .nil)) | exact RowsRen.one (.cons (Ren.glR rfl (cns_gg rfl rfl rfl _)) (.cons (.val _) .nil)) | exact sns_gg rfl _ | (exact rowsT)); done) | fail) : p := h
theorem full17_gen (fH fX gH : Nat → Ho) (fS fA fM gS gM : Nat → Sg) (f_H : ∀ i, i < 11 → HoI (fH i)) (f_X : ∀ i, i < 8 → HoI (fX i)) (f_take : ∀ i, i < 8 → (fH i).take 7 (fS i) = ⟨fX i, [(7, fM i)], []⟩)
    (f_full : ∀ i, 8 ≤ i ∧ i < 10 → ∃ m, (fH i).take 7 (fS i) = ⟨fH i, [(7, m)], []⟩ ∧ m.fl = 20 ∧ m.ack = 10 ∧ m.data = []) (f_up : ∀ i, i < 4 → (fX i).take 7 (fA i) = ⟨fH (i + 1), [], []⟩) (f_next : ∀ i, 4 ≤ i ∧ i < 8 → fX i = fH (i + 1)) (f_stay : ∀ i, 8 ≤ i ∧ i < 10 → fH i = fH (i + 1))
    (f_msg : ∀ i, i < 8 → (fM i).fl = 18 ∧ (fM i).data = []) (f_ans : ∀ i : Nat, i < 4 → fA i = ⟨100 + i, 1883, 10, wadd (fM i).seq 1, 16, 500, []⟩) (f_seg : ∀ i : Nat, i < 10 → fS i = ⟨100 + i, 1883, 9, 0, 2, 500, []⟩) (sgB_fS : ∀ i, i < 10 → sgB (fS i) = true) (sgB_fA : ∀ i, i < 4 → sgB (fA i) = true)
    (g_take : ∀ i, i < 6 → (gH i).take 7 (gS i) = ⟨gH (i + 1), [(7, gM i)], []⟩) (g_msg : ∀ i : Nat, i < 6 → ((gM i).fl == 18) = decide ((i : Int) < 4) ∧ (gM i).data = [] ∧ gS i = ⟨100 + i, 1883, 0, 0, 2, 0, []⟩) (sgB_gS : ∀ i, i < 6 → sgB (gS i) = true) (g_H : ∀ i, i < 7 → HoI (gH i))
    (f0 : fH 0 = ⟨[], 0⟩) (g0 : gH 0 = ⟨[], 0⟩) (e10 : (fH 10).conns.length = 8 ∧ (fH 10).count = 8) (e6 : (gH 6).conns.length = 4) (h : Ho) (l : List Act7) (hh : HoBig h) (hl : ActLen7 l) : ACallL Try.prog 4 [.agg (shR h l)] [.perm] (.val (.bool true)) [.perm] := by
  have px := pl_cns h.conns
  have pz := pl_act7 l
  dsimp only [shR]
  refine ACallL.of_AWs Try.func4 rfl (fun a w => Try.call4 a w) (congrArg Array.toList Try.results4) Try.ntmps4 (by simp only [spine, List.cons_append, List.nil_append, List.append_assoc]; rfl) fun B hB => ?_
  refine qAWs.cut mixed 4 (by simp only [List.take_succ_cons, List.take_zero]; rfl) (by simp only [List.drop_succ_cons, List.drop_zero]; rfl) (by simp only [chain]; rfl) rfl (X := Unit) (fun _ => slotsOf 247 [(1, .ptr 1 0 0), (3, .ptr 2 0 0)]) (fun _ => [.perm, .live ⟨3, 27, [[.list 0 16 (h.conns.map (cnR 0)), .val (.int .i64 h.count), .list 0 13 (l.map (alR 0))]]⟩, .live ⟨2, 24, [[.glist 3 16 ((fH 10).conns.map (cnG 4 5 6)), .val (.int .i64 (fH 10).count)]]⟩, .uniq, .uniq, .uniq, .uniq]) (fun _ => True) ?_ ?_
  · ((conv => whnf); (repeat' ((first | (with_reducible first | refine qif_n ?_ | refine qif_t ‹_› ?_ | refine qif_f ‹_› ?_) | ((with_reducible refine qif_t ?_ ?_); focus decide) | ((with_reducible refine qif_f ?_ ?_); focus decide) | (with_reducible refine And.intro (orderOk_i ?ho) ?_; (case ho => kernel_rfl)) | ((with_reducible refine qif_t ?_ ?_); focus (simp []; done)) | ((with_reducible refine qif_f ?_ ?_); focus (simp []; done)) | (with_reducible first | refine qif_i (fun _ => ?_) (fun _ => ?_) | refine frcVs_i ?_ | refine frcRs_i ?_)) <;> (conv => whnf))))
    refine qAW.loopS (by simp only [spine, List.cons_append, List.nil_append, List.append_assoc]; rfl) (X := Nat) (fun i => slotsOf 247 [(1, .ptr 1 0 0), (3, .ptr 2 0 0), (4, .val (.int .i64 i))])
      (fun i => [.perm, .live ⟨3, 27, [[.list 0 16 (h.conns.map (cnR 0)), .val (.int .i64 h.count), .list 0 13 (l.map (alR 0))]]⟩, .live ⟨2, 24, [[.glist 3 16 ((fH i).conns.map (cnG 4 5 6)), .val (.int .i64 (fH i).count)]]⟩, .uniq, .uniq, .uniq, .uniq]) (fun i => i ≤ 10) (fun i => 10 - i) 0 (by omega) ?_ ?_
    · rw [f0]
      dsimp only [List.map_nil]
      as_aux_lemma =>
        (refine qConv.of hB [(1, 1), (2, 2)] [(0, 0)] [] (by rfl) ?_; focus ((conv => whnf); (repeat (refine And.intro ?_ ?_; rotate_left; (conv => whnf))); exact trivial; all_goals (try exact andT)))
        all_goals (try exact dt_AhHeFull_ROWK)
        all_goals trace_state
    · rintro E i hi hE
      have w := IntWalk.i64_in ((i : Int) + 1) (by omega)
      have wS := IntWalk.i64_in (100 + (i : Int)) (by omega)
      have H := f_H i (by omega)
      by_cases h10 : (i : Int) < 10
      · have hs := sgB_fS i (by omega)
        have hseg := f_seg i (by omega)
        have cT := hostTake_l (fH i) 7 (fS i) H (by decide) hs
        refine qAWs.cut mixed 2 (by simp only [List.take_succ_cons, List.take_zero]; rfl) (by simp only [List.drop_succ_cons, List.drop_zero]; rfl) (by simp only [chain]; rfl) rfl (X := Unit) (fun _ => slotsOf 247 [(1, .ptr 1 0 0), (3, .ptr 2 0 0), (4, .val (.int .i64 i))]) (fun _ => [.perm, .live ⟨3, 27, [[.list 0 16 (h.conns.map (cnR 0)), .val (.int .i64 h.count), .list 0 13 (l.map (alR 0))]]⟩, .live ⟨2, 24, [[.glist 3 16 ((fH i).conns.map (cnG 4 5 6)), .val (.int .i64 (fH i).count)]]⟩, .uniq, .uniq, .uniq, .uniq]) (fun _ => True) ?_ ?_
        · ((conv => whnf); (repeat' ((first | (with_reducible first | refine qif_n ?_ | refine qif_t ‹_› ?_ | refine qif_f ‹_› ?_) | ((with_reducible refine qif_t ?_ ?_); focus decide) | ((with_reducible refine qif_f ?_ ?_); focus decide) | (with_reducible refine And.intro (orderOk_i ?ho) ?_; (case ho => kernel_rfl)) | ((with_reducible refine qif_t ?_ ?_); focus (simp [h10]; done)) | ((with_reducible refine qif_f ?_ ?_); focus (simp [h10]; done)) | (with_reducible first | refine qif_i (fun _ => ?_) (fun _ => ?_) | refine frcVs_i ?_ | refine frcRs_i ?_)) <;> (conv => whnf))))
          refine ⟨(), trivial, ?_⟩
          as_aux_lemma =>
            (refine qConv.of hB [(1, 1), (2, 2)] [(0, 0), (3, 3), (4, 4), (5, 5), (6, 6)] [] (by rfl) ?_; focus ((conv => whnf); (repeat (refine And.intro ?_ ?_; rotate_left; (conv => whnf))); exact trivial; all_goals (try exact andT)))
            all_goals (try exact dt_AhHeFull_ROWK)
            all_goals trace_state
        rintro ⟨⟩ -
        (try dsimp only)
        refine qAWs.block (by simp only [spine, List.cons_append, List.nil_append, List.append_assoc]; rfl) ?_
        rintro E1 hE1
        by_cases h8 : 8 ≤ i
        · obtain ⟨m, ht, m1, m2, m3⟩ := f_full i ⟨h8, by omega⟩
          have h8' : decide (8 ≤ (i : Int)) = true := by simp; omega
          have cE := eqHost_l (fH i) (by have := H.len; omega) (fun c hc => (H.ok c hc).1.I.cnLen)
          have hn := f_stay i ⟨h8, by omega⟩
          rw [ht, hseg, ← wS] at cT
          obtain ⟨g, hg⟩ : ∃ g, fH i = g := ⟨_, rfl⟩
          rw [hg] at cT cE hn ⊢
          obtain ⟨gl, gc⟩ := g
          dsimp only [hoR, sgR, sgL, hsA, hsH, toS, List.map_cons, List.map_nil] at cT cE ⊢
          have m1' : (m.fl != 20) = false := by rw [m1]; rfl
          have m2' : (m.ack != 10) = false := by rw [m2]; rfl
          refine qAWs.fin mixed (by simp only [chain]; rfl) ?_
          ((conv => whnf); (repeat' ((first | (with_reducible first | refine qif_n ?_ | refine qif_t ‹_› ?_ | refine qif_f ‹_› ?_) | ((with_reducible refine qif_t ?_ ?_); focus decide) | ((with_reducible refine qif_f ?_ ?_); focus decide) | (with_reducible refine And.intro (orderOk_i ?ho) ?_; (case ho => kernel_rfl)) | ((with_reducible refine qif_t ?_ ?_); focus (simp [h10]; done)) | ((with_reducible refine qif_f ?_ ?_); focus (simp [h10]; done)) | (with_reducible first | refine qif_i (fun _ => ?_) (fun _ => ?_) | refine frcVs_i ?_ | refine frcRs_i ?_) | ((with_reducible refine qCall.pure (num17_l _) ?_ ?_ ?_ ?_); rotate_left 4; exact trivial; exact plT; exact plT) | (((with_reducible refine qCall.of (cT) [] [(0, 0), (0, 3), (0, 4), (0, 5), (0, 6)] [] [(1, 8), (2, 9), (3, 10), (4, 11), (5, 12), (6, 13), (7, 14), (8, 15)] [(8, .uniq), (9, .uniq), (10, .uniq), (11, .uniq), (12, .uniq), (13, .uniq), (14, .uniq), (15, .uniq)] (.tup [.agg [.glist 8 16 (gl.map (cnG 9 10 11)), .val (.int .i64 gc)], .glist 12 8 [snG 13 (7, m)], .glist 14 3 [], .val (.int .i64 0)]) ?hk ?_); (case hk => rfl); (conv => whnf); (repeat (refine And.intro ?_ ?_; (focus (first | exact sideT | (first | exact cns_bor rfl rfl rfl _ rfl))); (conv => whnf))); (fail_if_success (with_reducible first | refine And.intro (eqv_i ?_) ?_ | refine And.intro (ren_i ?_) ?_)))) | (((with_reducible refine qCall.reads (cE) [(0, 0), (0, 3), (0, 4), (0, 5), (0, 6), (0, 8), (0, 9), (0, 10), (0, 11)] [] ?hk ?_); (case hk => rfl); (conv => whnf); (repeat (refine And.intro ?_ ?_; (focus (first | exact sideT | (first | exact cns_bor rfl rfl rfl _ rfl))); (conv => whnf))); (fail_if_success (with_reducible first | refine And.intro (eqv_i ?_) ?_ | refine And.intro (ren_i ?_) ?_))))) <;> (conv => whnf))))
          subst hE1
          (conv => whnf)
          refine qRest.go mixed (by simp only [chain]; rfl) ?_
          ((conv => whnf); (repeat' ((first | (with_reducible first | refine qif_n ?_ | refine qif_t ‹_› ?_ | refine qif_f ‹_› ?_) | ((with_reducible refine qif_t ?_ ?_); focus decide) | ((with_reducible refine qif_f ?_ ?_); focus decide) | (with_reducible refine And.intro (orderOk_i ?ho) ?_; (case ho => kernel_rfl)) | ((with_reducible refine qif_t ?_ ?_); focus (simp []; done)) | ((with_reducible refine qif_f ?_ ?_); focus (simp []; done)) | (with_reducible first | refine qif_i (fun _ => ?_) (fun _ => ?_) | refine frcVs_i ?_ | refine frcRs_i ?_)) <;> (conv => whnf))))
          subst hE
          refine ⟨i + 1, by omega, by omega, ?_⟩
          dsimp only
          rw [← hn]
          generalize IntKind.i64.wrap (100 + (i : Int)) = q1
          as_aux_lemma =>
            (refine qConv.of hB [(1, 1), (2, 2)] [(0, 0), (3, 3), (4, 4), (5, 5), (6, 6)] [] (by rfl) ?_; focus ((conv => whnf); (repeat (refine And.intro ?_ ?_; rotate_left; (conv => whnf))); exact trivial; all_goals (try exact andT)))
            all_goals (try (first | (simp [w]; done)))
            all_goals (try exact dt_AhHeFull_ROWK)
            all_goals trace_state
        · have h8' : decide (8 ≤ (i : Int)) = false := by simp; omega
          have HX := f_X i (by omega)
          have hx := hostTake_l (fX i) 7 (fA i)
          rw [f_take i (by omega), hseg, ← wS] at cT
          obtain ⟨m0, m1⟩ := f_msg i (by omega)
          have hans := f_ans i
          obtain ⟨m, hm⟩ : ∃ m, fM i = m := ⟨_, rfl⟩
          rw [hm] at cT m0 m1 hans
          by_cases h4 : 4 ≤ i
          · have h4' : decide (4 ≤ (i : Int)) = true := by simp; omega
            have hn := f_next i ⟨h4, by omega⟩
            obtain ⟨x, hx2⟩ : ∃ x, fX i = x := ⟨_, rfl⟩
            rw [hx2] at cT hn
            obtain ⟨xl, xc⟩ := x
            obtain ⟨g, hg⟩ : ∃ g, fH i = g := ⟨_, rfl⟩
            rw [hg] at cT ⊢
            obtain ⟨gl, gc⟩ := g
            dsimp only [hoR, sgR, sgL, hsA, hsH, toS, List.map_cons, List.map_nil] at cT ⊢
            refine qAWs.fin mixed (by simp only [chain]; rfl) ?_
            ((conv => whnf); (repeat' ((first | (with_reducible first | refine qif_n ?_ | refine qif_t ‹_› ?_ | refine qif_f ‹_› ?_) | ((with_reducible refine qif_t ?_ ?_); focus decide) | ((with_reducible refine qif_f ?_ ?_); focus decide) | (with_reducible refine And.intro (orderOk_i ?ho) ?_; (case ho => kernel_rfl)) | ((with_reducible refine qif_t ?_ ?_); focus (simp [h10]; done)) | ((with_reducible refine qif_f ?_ ?_); focus (simp [h10]; done)) | (with_reducible first | refine qif_i (fun _ => ?_) (fun _ => ?_) | refine frcVs_i ?_ | refine frcRs_i ?_) | ((with_reducible refine qCall.pure (num17_l _) ?_ ?_ ?_ ?_); rotate_left 4; exact trivial; exact plT; exact plT) | (((with_reducible refine qCall.of (cT) [] [(0, 0), (0, 3), (0, 4), (0, 5), (0, 6)] [] [(1, 8), (2, 9), (3, 10), (4, 11), (5, 12), (6, 13), (7, 14), (8, 15)] [(8, .uniq), (9, .uniq), (10, .uniq), (11, .uniq), (12, .uniq), (13, .uniq), (14, .uniq), (15, .uniq)] (.tup [.agg [.glist 8 16 (xl.map (cnG 9 10 11)), .val (.int .i64 xc)], .glist 12 8 [snG 13 (7, m)], .glist 14 3 [], .val (.int .i64 0)]) ?hk ?_); (case hk => rfl); (conv => whnf); (repeat (refine And.intro ?_ ?_; (focus (first | exact sideT | (first | exact cns_bor rfl rfl rfl _ rfl))); (conv => whnf))); (fail_if_success (with_reducible first | refine And.intro (eqv_i ?_) ?_ | refine And.intro (ren_i ?_) ?_))))) <;> (conv => whnf))))
            subst hE1
            (conv => whnf)
            refine qRest.go mixed (by simp only [chain]; rfl) ?_
            ((conv => whnf); (repeat' ((first | (with_reducible first | refine qif_n ?_ | refine qif_t ‹_› ?_ | refine qif_f ‹_› ?_) | ((with_reducible refine qif_t ?_ ?_); focus decide) | ((with_reducible refine qif_f ?_ ?_); focus decide) | (with_reducible refine And.intro (orderOk_i ?ho) ?_; (case ho => kernel_rfl)) | ((with_reducible refine qif_t ?_ ?_); focus (simp []; done)) | ((with_reducible refine qif_f ?_ ?_); focus (simp []; done)) | (with_reducible first | refine qif_i (fun _ => ?_) (fun _ => ?_) | refine frcVs_i ?_ | refine frcRs_i ?_)) <;> (conv => whnf))))
            subst hE
            refine ⟨i + 1, by omega, by omega, ?_⟩
            dsimp only
            rw [← hn]
            generalize IntKind.i64.wrap (100 + (i : Int)) = q1
            as_aux_lemma =>
              (refine qConv.of hB [(1, 1), (2, 2)] [(0, 0), (8, 3), (9, 4), (10, 5), (11, 6)] [] (by rfl) ?_; focus ((conv => whnf); (repeat (refine And.intro ?_ ?_; rotate_left; (conv => whnf))); exact trivial; all_goals (try exact andT)))
              all_goals (try (first | (simp [w]; done)))
              all_goals (try exact dt_AhHeFull_ROWK)
              all_goals trace_state
          · have h4' : decide (4 ≤ (i : Int)) = false := by simp; omega
            have cT2 := hx HX (by decide) (sgB_fA i (by omega))
            rw [f_up i (by omega), hans (by omega), ← wS] at cT2
            obtain ⟨x, hx2⟩ : ∃ x, fX i = x := ⟨_, rfl⟩
            rw [hx2] at cT cT2
            obtain ⟨xl, xc⟩ := x
            obtain ⟨g, hg⟩ : ∃ g, fH i = g := ⟨_, rfl⟩
            rw [hg] at cT ⊢
            obtain ⟨gl, gc⟩ := g
            obtain ⟨y, hn⟩ : ∃ y, y = fH (i + 1) := ⟨_, rfl⟩
            rw [← hn] at cT2
            obtain ⟨yl, yc⟩ := y
            dsimp only [hoR, sgR, sgL, hsA, hsH, toS, List.map_cons, List.map_nil] at cT cT2 ⊢
            refine qAWs.fin mixed (by simp only [chain]; rfl) ?_
            ((conv => whnf); (repeat' ((first | (with_reducible first | refine qif_n ?_ | refine qif_t ‹_› ?_ | refine qif_f ‹_› ?_) | ((with_reducible refine qif_t ?_ ?_); focus decide) | ((with_reducible refine qif_f ?_ ?_); focus decide) | (with_reducible refine And.intro (orderOk_i ?ho) ?_; (case ho => kernel_rfl)) | ((with_reducible refine qif_t ?_ ?_); focus (simp [h10]; done)) | ((with_reducible refine qif_f ?_ ?_); focus (simp [h10]; done)) | (with_reducible first | refine qif_i (fun _ => ?_) (fun _ => ?_) | refine frcVs_i ?_ | refine frcRs_i ?_) | ((with_reducible refine qCall.pure (num17_l _) ?_ ?_ ?_ ?_); rotate_left 4; exact trivial; exact plT; exact plT) | ((with_reducible refine qCall.pure (refAdd_l _ _) ?_ ?_ ?_ ?_); rotate_left 4; exact trivial; exact plT; exact plT) | (((with_reducible refine qCall.of (cT) [] [(0, 0), (0, 3), (0, 4), (0, 5), (0, 6)] [] [(1, 8), (2, 9), (3, 10), (4, 11), (5, 12), (6, 13), (7, 14), (8, 15)] [(8, .uniq), (9, .uniq), (10, .uniq), (11, .uniq), (12, .uniq), (13, .uniq), (14, .uniq), (15, .uniq)] (.tup [.agg [.glist 8 16 (xl.map (cnG 9 10 11)), .val (.int .i64 xc)], .glist 12 8 [snG 13 (7, m)], .glist 14 3 [], .val (.int .i64 0)]) ?hk ?_); (case hk => rfl); (conv => whnf); (repeat (refine And.intro ?_ ?_; (focus (first | exact sideT | (first | exact cns_bor rfl rfl rfl _ rfl))); (conv => whnf))); (fail_if_success (with_reducible first | refine And.intro (eqv_i ?_) ?_ | refine And.intro (ren_i ?_) ?_)))) | (((with_reducible refine qCall.of (cT2) [] [(0, 0), (0, 8), (0, 9), (0, 10), (0, 11)] [] [(1, 17), (2, 18), (3, 19), (4, 20), (5, 21), (6, 22), (7, 23), (8, 24)] [(17, .uniq), (18, .uniq), (19, .uniq), (20, .uniq), (21, .uniq), (22, .uniq), (23, .uniq), (24, .uniq)] (.tup [.agg [.glist 17 16 (yl.map (cnG 18 19 20)), .val (.int .i64 yc)], .glist 21 8 [], .glist 23 3 [], .val (.int .i64 0)]) ?hk ?_); (case hk => rfl); (conv => whnf); (repeat (refine And.intro ?_ ?_; (focus (first | exact sideT | (first | exact cns_bor rfl rfl rfl _ rfl))); (conv => whnf))); (fail_if_success (with_reducible first | refine And.intro (eqv_i ?_) ?_ | refine And.intro (ren_i ?_) ?_))))) <;> (conv => whnf))))
            subst hE1
            (conv => whnf)
            refine qRest.go mixed (by simp only [chain]; rfl) ?_
            ((conv => whnf); (repeat' ((first | (with_reducible first | refine qif_n ?_ | refine qif_t ‹_› ?_ | refine qif_f ‹_› ?_) | ((with_reducible refine qif_t ?_ ?_); focus decide) | ((with_reducible refine qif_f ?_ ?_); focus decide) | (with_reducible refine And.intro (orderOk_i ?ho) ?_; (case ho => kernel_rfl)) | ((with_reducible refine qif_t ?_ ?_); focus (simp []; done)) | ((with_reducible refine qif_f ?_ ?_); focus (simp []; done)) | (with_reducible first | refine qif_i (fun _ => ?_) (fun _ => ?_) | refine frcVs_i ?_ | refine frcRs_i ?_)) <;> (conv => whnf))))
            subst hE
            refine ⟨i + 1, by omega, by omega, ?_⟩
            dsimp only
            rw [← hn]
            generalize IntKind.i64.wrap (100 + (i : Int)) = q1
            as_aux_lemma =>
              (refine qConv.of hB [(1, 1), (2, 2)] [(0, 0), (17, 3), (18, 4), (19, 5), (20, 6)] [] (by rfl) ?_; focus ((conv => whnf); (repeat (refine And.intro ?_ ?_; rotate_left; (conv => whnf))); exact trivial; all_goals (try exact andT)))
              all_goals (try (first | (simp [w]; done)))
              all_goals (try exact dt_AhHeFull_ROWK)
              all_goals trace_state
      · have e : i = 10 := by omega
        subst e
        refine qAWs.fin mixed (by simp only [chain]; rfl) ?_
        subst hE
        ((conv => whnf); (repeat' ((first | (with_reducible first | refine qif_n ?_ | refine qif_t ‹_› ?_ | refine qif_f ‹_› ?_) | ((with_reducible refine qif_t ?_ ?_); focus decide) | ((with_reducible refine qif_f ?_ ?_); focus decide) | (with_reducible refine And.intro (orderOk_i ?ho) ?_; (case ho => kernel_rfl)) | ((with_reducible refine qif_t ?_ ?_); focus (simp [h10]; done)) | ((with_reducible refine qif_f ?_ ?_); focus (simp [h10]; done)) | (with_reducible first | refine qif_i (fun _ => ?_) (fun _ => ?_) | refine frcVs_i ?_ | refine frcRs_i ?_)) <;> (conv => whnf))))
        refine ⟨(), trivial, ?_⟩
        generalize fH 10 = f10
        as_aux_lemma =>
          (refine qConv.of hB [(1, 1), (2, 2)] [(0, 0), (3, 3), (4, 4), (5, 5), (6, 6)] [] (by rfl) ?_; focus ((conv => whnf); (repeat (refine And.intro ?_ ?_; rotate_left; (conv => whnf))); exact trivial; all_goals (try exact andT)))
          all_goals (try exact dt_AhHeFull_ROWK)
          all_goals trace_state
  rintro ⟨⟩ -
  (try dsimp only)
  obtain ⟨e1, e2⟩ := e10
  obtain ⟨⟨f10, c10⟩, hf10⟩ : ∃ f, fH 10 = f := ⟨_, rfl⟩
  rw [hf10] at e1 e2 ⊢
  dsimp only at e1 e2 ⊢
  have e1' : (((f10.map (cnG 4 5 6)).length : Int) != 8) = false := by rw [List.length_map, e1]; rfl
  have e2' : (c10 != 8) = false := by rw [e2]; rfl
  refine qAWs.cut mixed 5 (by simp only [List.take_succ_cons, List.take_zero]; rfl) (by simp only [List.drop_succ_cons, List.drop_zero]; rfl) (by simp only [chain]; rfl) rfl (X := Unit) (fun _ => slotsOf 247 [(1, .ptr 1 0 0), (14, .ptr 2 0 0)]) (fun _ => [.perm, .live ⟨3, 27, [[.list 0 16 (h.conns.map (cnR 0)), .val (.int .i64 h.count), .list 0 13 (l.map (alR 0))]]⟩, .live ⟨2, 24, [[.glist 3 16 ((gH 6).conns.map (cnG 4 5 6)), .val (.int .i64 (gH 6).count)]]⟩, .uniq, .uniq, .uniq, .uniq]) (fun _ => True) ?_ ?_
  · ((conv => whnf); (repeat' ((first | (with_reducible first | refine qif_n ?_ | refine qif_t ‹_› ?_ | refine qif_f ‹_› ?_) | ((with_reducible refine qif_t ?_ ?_); focus decide) | ((with_reducible refine qif_f ?_ ?_); focus decide) | (with_reducible refine And.intro (orderOk_i ?ho) ?_; (case ho => kernel_rfl)) | ((with_reducible refine qif_t ?_ ?_); focus (simp []; done)) | ((with_reducible refine qif_f ?_ ?_); focus (simp []; done)) | (with_reducible first | refine qif_i (fun _ => ?_) (fun _ => ?_) | refine frcVs_i ?_ | refine frcRs_i ?_)) <;> (conv => whnf))))
    refine qAW.loopE mixed (X := Nat) (fun i => slotsOf 247 [(1, .ptr 1 0 0), (14, .ptr 2 0 0), (15, .val (.int .i64 i))])
      (fun i => [.perm, .live ⟨3, 27, [[.list 0 16 (h.conns.map (cnR 0)), .val (.int .i64 h.count), .list 0 13 (l.map (alR 0))]]⟩, .live ⟨2, 24, [[.glist 3 16 ((gH i).conns.map (cnG 4 5 6)), .val (.int .i64 (gH i).count)]]⟩, .uniq, .uniq, .uniq, .uniq]) (fun i => i ≤ 6) (fun i => 6 - i) 0 (by omega) ?_ ?_
    · rw [g0]
      dsimp only [List.map_nil]
      as_aux_lemma =>
        (refine qConv.of hB [(1, 1), (7, 2)] [(0, 0)] [] (by rfl) ?_; focus ((conv => whnf); (repeat (refine And.intro ?_ ?_; rotate_left; (conv => whnf))); exact trivial; all_goals (try exact andT)))
        all_goals (try exact dt_AhHeFull_ROWK)
        all_goals trace_state
    · rintro E i hi hE
      have w := IntWalk.i64_in ((i : Int) + 1) (by omega)
      have wS := IntWalk.i64_in (100 + (i : Int)) (by omega)
      have H := g_H i (by omega)
      by_cases h6 : (i : Int) < 6
      · have cT := hostTake_l (gH i) 7 (gS i) H (by decide) (sgB_gS i (by omega))
        obtain ⟨m1, m2, hseg⟩ := g_msg i (by omega)
        rw [g_take i (by omega), hseg, ← wS] at cT
        have m1' : (((gM i).fl == 18) == decide ((i : Int) < 4)) = true := by rw [m1]; simp
        obtain ⟨m, hm⟩ : ∃ m, gM i = m := ⟨_, rfl⟩
        rw [hm] at cT m1'
        obtain ⟨g, hg⟩ : ∃ g, gH i = g := ⟨_, rfl⟩
        rw [hg] at cT ⊢
        obtain ⟨gl, gc⟩ := g
        obtain ⟨y, hn⟩ : ∃ y, y = gH (i + 1) := ⟨_, rfl⟩
        rw [← hn] at cT
        obtain ⟨yl, yc⟩ := y
        dsimp only [hoR, sgR, sgL, hsA, hsH, toS, List.map_cons, List.map_nil] at cT ⊢
        subst hE
        ((conv => whnf); (repeat' ((first | (with_reducible first | refine qif_n ?_ | refine qif_t ‹_› ?_ | refine qif_f ‹_› ?_) | ((with_reducible refine qif_t ?_ ?_); focus decide) | ((with_reducible refine qif_f ?_ ?_); focus decide) | (with_reducible refine And.intro (orderOk_i ?ho) ?_; (case ho => kernel_rfl)) | ((with_reducible refine qif_t ?_ ?_); focus (simp [h6]; done)) | ((with_reducible refine qif_f ?_ ?_); focus (simp [h6]; done)) | (with_reducible first | refine qif_i (fun _ => ?_) (fun _ => ?_) | refine frcVs_i ?_ | refine frcRs_i ?_) | ((with_reducible refine qCall.pure (num17_l _) ?_ ?_ ?_ ?_); rotate_left 4; exact trivial; exact plT; exact plT) | (refine qOpen.neb leaf4 rfl rfl rfl ?_) | (((with_reducible refine qCall.of (cT) [] [(0, 0), (0, 3), (0, 4), (0, 5), (0, 6)] [] [(1, 7), (2, 8), (3, 9), (4, 10), (5, 11), (6, 12), (7, 13), (8, 14)] [(7, .uniq), (8, .uniq), (9, .uniq), (10, .uniq), (11, .uniq), (12, .uniq), (13, .uniq), (14, .uniq)] (.tup [.agg [.glist 7 16 (yl.map (cnG 8 9 10)), .val (.int .i64 yc)], .glist 11 8 [snG 12 (7, m)], .glist 13 3 [], .val (.int .i64 0)]) ?hk ?_); (case hk => rfl); (conv => whnf); (repeat (refine And.intro ?_ ?_; (focus (first | exact sideT | (first | exact cns_bor rfl rfl rfl _ rfl))); (conv => whnf))); (fail_if_success (with_reducible first | refine And.intro (eqv_i ?_) ?_ | refine And.intro (ren_i ?_) ?_))))) <;> (conv => whnf))))
        refine ⟨i + 1, by omega, by omega, ?_⟩
        dsimp only
        rw [← hn]
        generalize IntKind.i64.wrap (100 + (i : Int)) = q1
        as_aux_lemma =>
          (refine qConv.of hB [(1, 1), (2, 2)] [(0, 0), (7, 3), (8, 4), (9, 5), (10, 6)] [] (by rfl) ?_; focus ((conv => whnf); (repeat (refine And.intro ?_ ?_; rotate_left; (conv => whnf))); exact trivial; all_goals (try exact andT)))
          all_goals (try (first | (simp [w]; done)))
          all_goals (try exact dt_AhHeFull_ROWK)
          all_goals trace_state
      · have e : i = 6 := by omega
        subst e
        subst hE
        ((conv => whnf); (repeat' ((first | (with_reducible first | refine qif_n ?_ | refine qif_t ‹_› ?_ | refine qif_f ‹_› ?_) | ((with_reducible refine qif_t ?_ ?_); focus decide) | ((with_reducible refine qif_f ?_ ?_); focus decide) | (with_reducible refine And.intro (orderOk_i ?ho) ?_; (case ho => kernel_rfl)) | ((with_reducible refine qif_t ?_ ?_); focus (simp [h6]; done)) | ((with_reducible refine qif_f ?_ ?_); focus (simp [h6]; done)) | (with_reducible first | refine qif_i (fun _ => ?_) (fun _ => ?_) | refine frcVs_i ?_ | refine frcRs_i ?_)) <;> (conv => whnf))))
        refine ⟨(), trivial, ?_⟩
        generalize gH 6 = g6
        as_aux_lemma =>
          (refine qConv.of hB [(1, 1), (2, 2)] [(0, 0), (3, 3), (4, 4), (5, 5), (6, 6)] [] (by rfl) ?_; focus ((conv => whnf); (repeat (refine And.intro ?_ ?_; rotate_left; (conv => whnf))); exact trivial; all_goals (try exact andT)))
          all_goals (try exact dt_AhHeFull_ROWK)
          all_goals trace_state
  rintro ⟨⟩ -
  (try dsimp only)
  have e4 := e6
  obtain ⟨⟨g6, c6⟩, hg6⟩ : ∃ f, gH 6 = f := ⟨_, rfl⟩
  rw [hg6] at e4 ⊢
  dsimp only at e4 ⊢
  have e3' : (((g6.map (cnG 4 5 6)).length : Int) == 4) = true := by rw [List.length_map, e4]; rfl
  have c1 := hostTake_l ⟨[], 0⟩ 7 ⟨1, 80, 5, 0, 2, 0, []⟩ h0_H (by decide) (by kernel_rfl)
  have c2 := hostTake_l ⟨[], 0⟩ 7 ⟨1, 1883, 0, 77, 16, 0, []⟩ h0_H (by decide) (by kernel_rfl)
  have c3 := hostTake_l ⟨[], 0⟩ 7 ⟨1, 1883, 0, 0, 4, 0, []⟩ h0_H (by decide) (by kernel_rfl)
  rw [h0_80] at c1
  rw [h0_ack] at c2
  rw [h0_rst] at c3
  dsimp only [hoR, sgR, sgL, hsA, hsH, List.map_cons, List.map_nil] at c1 c2 c3
  have hl0 : decide (0 ≤ ((l.map (alR 0)).length : Int)) = true := by simp
  refine qAWs.fin mixed (by simp only [chain]; rfl) ?_
  ((conv => whnf); (repeat' ((first | (with_reducible first | refine qif_n ?_ | refine qif_t ‹_› ?_ | refine qif_f ‹_› ?_) | ((with_reducible refine qif_t ?_ ?_); focus decide) | ((with_reducible refine qif_f ?_ ?_); focus decide) | (with_reducible refine And.intro (orderOk_i ?ho) ?_; (case ho => kernel_rfl)) | ((with_reducible refine qif_t ?_ ?_); focus (simp []; done)) | ((with_reducible refine qif_f ?_ ?_); focus (simp []; done)) | (with_reducible first | refine qif_i (fun _ => ?_) (fun _ => ?_) | refine frcVs_i ?_ | refine frcRs_i ?_) | ((with_reducible refine qCall.pure (num17_l _) ?_ ?_ ?_ ?_); rotate_left 4; exact trivial; exact plT; exact plT) | ((with_reducible refine qCall.pure (wakes17_l) ?_ ?_ ?_ ?_); rotate_left 4; exact trivial; exact plT; exact plT) | (((with_reducible refine qCall.of (c1) [] [(0, 0)] [] [(1, 7), (2, 8), (3, 9), (4, 10), (5, 11), (6, 12), (7, 13), (8, 14)] [(7, .uniq), (8, .uniq), (9, .uniq), (10, .uniq), (11, .uniq), (12, .uniq), (13, .uniq), (14, .uniq)] (.tup [.agg [.glist 7 16 [], .val (.int .i64 0)], .glist 11 8 [snG 12 (7, ⟨80, 1, 0, 6, 20, 0, []⟩)], .glist 13 3 [], .val (.int .i64 0)]) ?hk ?_); (case hk => rfl); (conv => whnf); (repeat (refine And.intro ?_ ?_; (focus (first | exact sideT | (first | exact cns_bor rfl rfl rfl _ rfl))); (conv => whnf))); (fail_if_success (with_reducible first | refine And.intro (eqv_i ?_) ?_ | refine And.intro (ren_i ?_) ?_)))) | (((with_reducible refine qCall.of (c2) [] [(0, 0)] [] [(1, 16), (2, 17), (3, 18), (4, 19), (5, 20), (6, 21), (7, 22), (8, 23)] [(16, .uniq), (17, .uniq), (18, .uniq), (19, .uniq), (20, .uniq), (21, .uniq), (22, .uniq), (23, .uniq)] (.tup [.agg [.glist 16 16 [], .val (.int .i64 0)], .glist 20 8 [snG 21 (7, ⟨1883, 1, 77, 0, 4, 0, []⟩)], .glist 22 3 [], .val (.int .i64 0)]) ?hk ?_); (case hk => rfl); (conv => whnf); (repeat (refine And.intro ?_ ?_; (focus (first | exact sideT | (first | exact cns_bor rfl rfl rfl _ rfl))); (conv => whnf))); (fail_if_success (with_reducible first | refine And.intro (eqv_i ?_) ?_ | refine And.intro (ren_i ?_) ?_)))) | (((with_reducible refine qCall.of (c3) [] [(0, 0)] [] [(1, 25), (2, 26), (3, 27), (4, 28), (5, 29), (6, 30), (7, 31), (8, 32)] [(25, .uniq), (26, .uniq), (27, .uniq), (28, .uniq), (29, .uniq), (30, .uniq), (31, .uniq), (32, .uniq)] (.tup [.agg [.glist 25 16 [], .val (.int .i64 0)], .glist 29 8 [], .glist 31 3 [], .val (.int .i64 0)]) ?hk ?_); (case hk => rfl); (conv => whnf); (repeat (refine And.intro ?_ ?_; (focus (first | exact sideT | (first | exact cns_bor rfl rfl rfl _ rfl))); (conv => whnf))); (fail_if_success (with_reducible first | refine And.intro (eqv_i ?_) ?_ | refine And.intro (ren_i ?_) ?_))))) <;> (conv => whnf))))
  all_goals as_aux_lemma =>
    (refine qConv.of hB [] [(0, 0)] [] (by rfl) ?_; focus ((conv => whnf); (repeat (refine And.intro ?_ ?_; rotate_left; (conv => whnf))); exact trivial; all_goals (try exact andT)))
theorem full17_l (h : Ho) (l : List Act7) (hh : HoBig h) (hl : ActLen7 l) : ACallL Try.prog 4 [.agg (shR h l)] [.perm] (.val (.bool true)) [.perm] :=
  full17_gen fH fX gH fS fA fM gS gM f_H f_X f_take f_full f_up f_next f_stay f_msg f_ans f_seg sgB_fS sgB_fA g_take g_msg sgB_gS g_H rfl rfl ⟨rfl, rfl⟩ rfl h l hh hl
end Go.Proofs.Ytceohcbokbalhaa

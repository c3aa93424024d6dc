/- Two that call from one place, two from two: on data. No condition but lengths. -/
import Derived.Test.YtceohcbokbalhaaPkAM
import Derived.Test.YtceohcbokbalhaaPkAN
import Derived.Test.YtceohcbokbalhaaAhiC
-- sideX: first | exact cns_bor rfl rfl rfl _ rfl
namespace Go.Proofs.Ytceohcbokbalhaa
open Go.RowKit
set_option linter.unusedVariables false
set_option linter.unusedSimpArgs false
set_option maxRecDepth 100000
set_option maxHeartbeats 16000000
def tJ (i : Nat) : List Int := (List.range i).map fun k => (tM k).seq
theorem dt_AhHeTwo_ROWK {p : Prop} (h : p := by first | ((first | rfl | exact Ren.vgnil _ _ | exact RowsRen.one (.cons (Ren.vgnil _ _) (.cons (.val _) .nil)) | exact RowsRen.one (.cons (Ren.glR rfl (cns_gg rfl rfl rfl _)) (.cons (.val _) .nil)) | exact sns_gg rfl _ | exact RowsRen.castR (b := (tJ i).map iR ++ [iR m.seq]) (by simp) (RowsRen.app (RowsRen.mapF _ _ _ fun _ _ => .cons (.val _) .nil) (RowsRen.one (.cons (.val _) .nil))) | exact RowsRen.mapF _ _ _ fun _ _ => .cons (.val _) .nil | exact Ren.glR rfl (RowsRen.mapF _ _ _ fun _ _ => .cons (.val _) .nil) | (exact rowsT)); done) | fail) : p := h
theorem dt_AhHeTwo_ROWK2 {p : Prop} (h : p := by first | ((first | rfl | exact Ren.vgnil _ _ | exact RowsRen.one (.cons (Ren.vgnil _ _) (.cons (.val _) .nil)) | exact RowsRen.one (.cons (Ren.glR rfl (cns_gg rfl rfl rfl _)) (.cons (.val _) .nil)) | exact sns_gg rfl _ | exact RowsRen.mapF _ _ _ fun _ _ => .cons (.val _) .nil | exact Ren.glR rfl (RowsRen.mapF _ _ _ fun _ _ => .cons (.val _) .nil) | (exact rowsT)); done) | fail) : p := h
theorem two17_gen (tI tP : Nat → Int) (tS tA tM tK tN : Nat → Sg) (tJ : Nat → List Int) (tH tX tQ : Nat → Ho) (tZ : Ho)
    (t_take : ∀ i, i < 3 → (tH i).take (tI i) (tS i) = ⟨tX i, [(tI i, tM i)], []⟩) (t_up : ∀ i : Nat, i < 3 → (tX i).take (tI i) (tA i) = ⟨tH (i + 1), [(tI i, tK i)], [⟨(i : Int) + 1, [97 + (i : Int)], false⟩]⟩)
    (t_seg : ∀ i : Nat, i < 3 → tS i = ⟨tP i, 1883, 100 * i, 0, 2, 500, []⟩) (t_ans : ∀ i : Nat, i < 3 → tA i = ⟨tP i, 1883, 100 * i + 1, wadd (tM i).seq 1, 16, 500, [97 + (i : Int)]⟩)
    (sgB_tS : ∀ i, i < 3 → sgB (tS i) = true) (sgB_tA : ∀ i, i < 3 → sgB (tA i) = true) (tI_in : ∀ i, i < 3 → 0 ≤ tI i ∧ tI i ≤ 4294967295) (t_H : ∀ i, i < 4 → HoI (tH i)) (t_X : ∀ i, i < 3 → HoI (tX i)) (t_Q : ∀ i, i < 4 → HoI (tQ i))
    (t_send : ∀ i : Nat, i < 3 → (tQ i).withS ((i : Int) + 1) (fun c => c.sends [120 + (i : Int)]) = ⟨tQ (i + 1), [(tI i, tN i)], []⟩) (t_sendE : ∀ i : Nat, i < 3 → (tQ i).withE ((i : Int) + 1) (fun c => c.sendE [120 + (i : Int)]) = 0) (t_dp : ∀ i, i < 3 → (tN i).dp = tP i)
    (t_rst : Ho.take (tQ 3) 7 ⟨2, 1883, 102, 0, 4, 0, []⟩ = ⟨tZ, [], [⟨2, [], true⟩]⟩) (t_Z : HoI tZ) (t_none : tZ.withE 2 (fun c => c.sendE [113]) = 3) (t_one : tZ.withE 1 (fun c => c.sendE [113]) = 0)
    (h0 : tH 0 = ⟨[], 0⟩) (h3 : tH 3 = tQ 0) (z2 : tZ.conns.length = 2) (j0 : tJ 0 = []) (j1 : ∀ i, tJ (i + 1) = tJ i ++ [(tM i).seq]) (jl : ∀ i, (tJ i).length = i)
    (hI : ∀ i, i < 3 → ([[.val (.int .i64 7)], [.val (.int .i64 7)], [.val (.int .i64 8)]] : List (List AV))[i]? = some [.val (.int .i64 (tI i))]) (hP : ∀ i, i < 3 → ([[.val (.int .i64 1)], [.val (.int .i64 2)], [.val (.int .i64 1)]] : List (List AV))[i]? = some [.val (.int .i64 (tP i))])
    (h : Ho) (l : List Act7) (hh : HoBig h) (hl : ActLen7 l) : ACallL Try.prog 5 [.agg (shR h l)] [.perm] (.val (.bool true)) [.perm] := by
  have px := pl_cns h.conns
  have pz := pl_act7 l
  dsimp only [shR]
  refine ACallL.of_AWs Try.func5 rfl (fun a w => Try.call5 a w) (congrArg Array.toList Try.results5) Try.ntmps5 (by simp only [spine, List.cons_append, List.nil_append, List.append_assoc]; rfl) fun B hB => ?_
  refine qAWs.cut mixed 6 (by simp only [List.take_succ_cons, List.take_zero]; rfl) (by simp only [List.drop_succ_cons, List.drop_zero]; rfl) (by simp only [chain]; rfl) rfl (X := Unit) (fun _ => slotsOf 260 [(1, .ptr 1 0 0), (3, .ptr 2 0 0), (4, .sl 3 0 3), (5, .sl 4 0 3)]) (fun _ => [.perm, .live ⟨3, 27, [[.list 0 16 (h.conns.map (cnR 0)), .val (.int .i64 h.count), .list 0 13 (l.map (alR 0))]]⟩, .live ⟨2, 24, [[.glist 5 16 ((tH 3).conns.map (cnG 6 7 8)), .val (.int .i64 (tH 3).count)]]⟩, .live ⟨1, 3, [[.val (.int .i64 7)], [.val (.int .i64 7)], [.val (.int .i64 8)]]⟩, .live ⟨1, 3, [[.val (.int .i64 1)], [.val (.int .i64 2)], [.val (.int .i64 1)]]⟩, .uniq, .uniq, .uniq, .uniq]) (fun _ => True) ?_ ?_
  · ((conv => whnf); (repeat' ((first | (with_reducible first | refine qif_n ?_ | refine qif_t ‹_› ?_ | refine qif_f ‹_› ?_) | ((with_reducible refine qif_t ?_ ?_); focus decide) | ((with_reducible refine qif_f ?_ ?_); focus decide) | (with_reducible refine And.intro (orderOk_i ?ho) ?_; (case ho => kernel_rfl)) | ((with_reducible refine qif_t ?_ ?_); focus (simp []; done)) | ((with_reducible refine qif_f ?_ ?_); focus (simp []; done)) | (with_reducible first | refine qif_i (fun _ => ?_) (fun _ => ?_) | refine frcVs_i ?_ | refine frcRs_i ?_)) <;> (conv => whnf))))
    refine qAW.loopE mixed (X := Nat) (fun i => slotsOf 260 [(1, .ptr 1 0 0), (3, .ptr 2 0 0), (4, .sl 3 0 3), (5, .sl 4 0 3), (6, .glist 9 1 ((tJ i).map iR)), (7, .val (.int .i64 i))])
      (fun i => [.perm, .live ⟨3, 27, [[.list 0 16 (h.conns.map (cnR 0)), .val (.int .i64 h.count), .list 0 13 (l.map (alR 0))]]⟩, .live ⟨2, 24, [[.glist 5 16 ((tH i).conns.map (cnG 6 7 8)), .val (.int .i64 (tH i).count)]]⟩, .live ⟨1, 3, [[.val (.int .i64 7)], [.val (.int .i64 7)], [.val (.int .i64 8)]]⟩, .live ⟨1, 3, [[.val (.int .i64 1)], [.val (.int .i64 2)], [.val (.int .i64 1)]]⟩, .uniq, .uniq, .uniq, .uniq, .uniq]) (fun i => i ≤ 3) (fun i => 3 - i) 0 (by omega) ?_ ?_
    · rw [h0, j0]
      dsimp only [List.map_nil]
      as_aux_lemma =>
        (refine qConv.of hB [(1, 1), (2, 2), (3, 3), (4, 4)] [(0, 0)] [] (by rfl) ?_; focus ((conv => whnf); (repeat (refine And.intro ?_ ?_; rotate_left; (conv => whnf))); exact trivial; all_goals (try exact andT)))
        all_goals (try exact dt_AhHeTwo_ROWK)
        all_goals trace_state
    · rintro E i hi hE
      have w := IntWalk.i64_in ((i : Int) + 1) (by omega)
      have wM := IntWalk.i64_in (100 * (i : Int)) (by omega)
      have wM1 : IntKind.i64.wrap (IntKind.i64.wrap (100 * (i : Int)) + 1) = 100 * i + 1 := by rw [wM]; exact IntWalk.i64_in _ (by omega)
      have w9 : IntKind.u8.wrap (IntKind.i64.wrap (97 + (i : Int))) = 97 + i := by rw [IntWalk.i64_in _ (by omega), IntKind.wrap_u8]; omega
      by_cases h3i : (i : Int) < 3
      · have H := t_H i (by omega)
        have HX := t_X i (by omega)
        have hip := tI_in i (by omega)
        have cT := hostTake_l (tH i) (tI i) (tS i) H hip (sgB_tS i (by omega))
        have cT2 := hostTake_l (tX i) (tI i) (tA i) HX hip (sgB_tA i (by omega))
        rw [t_take i (by omega), t_seg i (by omega), ← wM] at cT
        rw [t_up i (by omega), t_ans i (by omega), ← w9, ← wM1] at cT2
        have hI := hI i (by omega)
        have hP := hP i (by omega)
        have ei : 0 + (i : Int).toNat = i := by omega
        have hj := jl i
        have hj1 := j1 i
        have hJl : ((tJ i).map iR).length + 1 ≤ 100 := by simp; omega
        obtain ⟨m, hm⟩ : ∃ m, tM i = m := ⟨_, rfl⟩
        rw [hm] at cT cT2 hj1
        have hrow : ((tJ i).map iR ++ [[AV.val (.int .i64 m.seq)]])[(i : Int).toNat]? = some [AV.val (.int .i64 m.seq)] := by
          rw [List.getElem?_append_right (by simp; omega)]; simp [hj]
        have hjlen : ((((tJ i).map iR ++ [[AV.val (.int .i64 m.seq)]]).length : Nat) : Int) = i + 1 := by simp; omega
        obtain ⟨v, hv⟩ : ∃ v, tI i = v := ⟨_, rfl⟩
        obtain ⟨p, hp⟩ : ∃ p, tP i = p := ⟨_, rfl⟩
        rw [hv] at cT cT2 hI
        rw [hp] at cT cT2 hP
        obtain ⟨x, hx2⟩ : ∃ x, tX i = x := ⟨_, rfl⟩
        rw [hx2] at cT cT2
        obtain ⟨xl, xc⟩ := x
        obtain ⟨g, hg⟩ : ∃ g, tH i = g := ⟨_, rfl⟩
        rw [hg] at cT ⊢
        obtain ⟨gl, gc⟩ := g
        obtain ⟨y, hn⟩ : ∃ y, y = tH (i + 1) := ⟨_, rfl⟩
        rw [← hn] at cT2
        obtain ⟨yl, yc⟩ := y
        dsimp only [hoR, sgR, sgL, hsA, hsH, toS, List.map_cons, List.map_nil, hdG, snG, sgG] at cT cT2 ⊢
        have w2 : ((i : Int) + 1 != IntKind.i64.wrap ((i : Int) + 1)) = false := by rw [w]; simp
        subst hE
        ((conv => whnf); (repeat' ((first | (with_reducible first | refine qif_n ?_ | refine qif_t ‹_› ?_ | refine qif_f ‹_› ?_) | ((with_reducible refine qif_t ?_ ?_); focus decide) | ((with_reducible refine qif_f ?_ ?_); focus decide) | (with_reducible refine And.intro (orderOk_i ?ho) ?_; (case ho => kernel_rfl)) | ((with_reducible refine qif_t ?_ ?_); focus (simp [h3i, hjlen]; done)) | ((with_reducible refine qif_f ?_ ?_); focus (simp [h3i, hjlen]; done)) | (with_reducible first | refine qif_i (fun _ => ?_) (fun _ => ?_) | refine frcVs_i ?_ | refine frcRs_i ?_) | ((with_reducible refine qCall.pure (num17_l _) ?_ ?_ ?_ ?_); rotate_left 4; exact trivial; exact plT; exact plT) | ((with_reducible refine qCall.pure (refAdd_l _ _) ?_ ?_ ?_ ?_); rotate_left 4; exact trivial; exact plT; exact plT) | (refine qCase_i (idxS rfl rfl rfl rfl rfl rfl rfl rfl (by omega)) ?_) | (refine qCase_i (ldR' rfl rfl rfl rfl rfl (by with_reducible exact ei) hI rfl) ?_) | (refine qCase_i (ldR' rfl rfl rfl rfl rfl (by with_reducible exact ei) hP rfl) ?_) | (((with_reducible refine qCall.of (cT) [] [(0, 0), (0, 5), (0, 6), (0, 7), (0, 8)] [] [(1, 10), (2, 11), (3, 12), (4, 13), (5, 14), (6, 15), (7, 16), (8, 17)] [(10, .uniq), (11, .uniq), (12, .uniq), (13, .uniq), (14, .uniq), (15, .uniq), (16, .uniq), (17, .uniq)] (.tup [.agg [.glist 10 16 (xl.map (cnG 11 12 13)), .val (.int .i64 xc)], .glist 14 8 [[.val (.int .i64 v), .val (.int .i64 m.sp), .val (.int .i64 m.dp), .val (.int .i64 m.seq), .val (.int .i64 m.ack), .val (.int .i64 m.fl), .val (.int .i64 m.win), gL 15 m.data]], .glist 16 3 [], .val (.int .i64 0)]) ?hk ?_); (case hk => rfl); (conv => whnf); (repeat (refine And.intro ?_ ?_; (focus (first | exact sideT | (first | exact cns_bor rfl rfl rfl _ rfl))); (conv => whnf))); (fail_if_success (with_reducible first | refine And.intro (eqv_i ?_) ?_ | refine And.intro (ren_i ?_) ?_)))) | (refine qCase_i (apG (nb := 8) rfl rfl rfl rfl rfl rfl rfl rfl rfl rfl ⟨Nat.zero_lt_succ _, Nat.zero_lt_succ _, rfl⟩ rfl (Nat.le_trans (Nat.mul_le_mul_right _ hJl) (by decide))) ?_) | (refine qCase_i (idxG rfl rfl rfl rfl rfl rfl (by omega) hrow) ?_) | (((with_reducible refine qCall.of (cT2) [] [(0, 0), (0, 10), (0, 11), (0, 12), (0, 13)] [(0, 21)] [(1, 22), (2, 23), (3, 24), (4, 25), (5, 26), (6, 27), (7, 28), (8, 29)] [(22, .uniq), (23, .uniq), (24, .uniq), (25, .uniq), (26, .uniq), (27, .uniq), (28, .uniq), (29, .uniq)] (.tup [.agg [.glist 22 16 (yl.map (cnG 23 24 25)), .val (.int .i64 yc)], .glist 26 8 [snG 27 (v, tK i)], .glist 28 3 [[.val (.int .i64 ((i : Int) + 1)), gL 29 [IntKind.u8.wrap (IntKind.i64.wrap (97 + (i : Int)))], .val (.bool false)]], .val (.int .i64 0)]) ?hk ?_); (case hk => rfl); (conv => whnf); (repeat (refine And.intro ?_ ?_; (focus (first | exact sideT | (first | exact cns_bor rfl rfl rfl _ rfl))); (conv => whnf))); (fail_if_success (with_reducible first | refine And.intro (eqv_i ?_) ?_ | refine And.intro (ren_i ?_) ?_))))) <;> (conv => whnf))))
        refine ⟨i + 1, by omega, by omega, ?_⟩
        dsimp only
        rw [← hn, hj1]
        generalize IntKind.u8.wrap (IntKind.i64.wrap (97 + (i : Int))) = q1
        as_aux_lemma =>
          (refine qConv.of hB [(1, 1), (2, 2), (3, 3), (4, 4)] [(0, 0), (22, 5), (23, 6), (24, 7), (25, 8), (20, 9)] [] (by rfl) ?_; focus ((conv => whnf); (repeat (refine And.intro ?_ ?_; rotate_left; (conv => whnf))); exact trivial; all_goals (try exact andT)))
          all_goals (try (first | (simp [w]; done)))
          all_goals (try exact dt_AhHeTwo_ROWK)
          all_goals trace_state
      · have e : i = 3 := by omega
        subst e
        subst hE
        ((conv => whnf); (repeat' ((first | (with_reducible first | refine qif_n ?_ | refine qif_t ‹_› ?_ | refine qif_f ‹_› ?_) | ((with_reducible refine qif_t ?_ ?_); focus decide) | ((with_reducible refine qif_f ?_ ?_); focus decide) | (with_reducible refine And.intro (orderOk_i ?ho) ?_; (case ho => kernel_rfl)) | ((with_reducible refine qif_t ?_ ?_); focus (simp [h3i]; done)) | ((with_reducible refine qif_f ?_ ?_); focus (simp [h3i]; done)) | (with_reducible first | refine qif_i (fun _ => ?_) (fun _ => ?_) | refine frcVs_i ?_ | refine frcRs_i ?_)) <;> (conv => whnf))))
        refine ⟨(), trivial, ?_⟩
        as_aux_lemma =>
          (refine qConv.of hB [(1, 1), (2, 2), (3, 3), (4, 4)] [(0, 0), (5, 5), (6, 6), (7, 7), (8, 8)] [] (by rfl) ?_; focus ((conv => whnf); (repeat (refine And.intro ?_ ?_; rotate_left; (conv => whnf))); exact trivial; all_goals (try exact andT)))
          all_goals (try exact dt_AhHeTwo_ROWK)
          all_goals trace_state
  rintro ⟨⟩ -
  (try dsimp only)
  rw [h3]
  refine qAWs.cut mixed 2 (by simp only [List.take_succ_cons, List.take_zero]; rfl) (by simp only [List.drop_succ_cons, List.drop_zero]; rfl) (by simp only [chain]; rfl) rfl (X := Unit) (fun _ => slotsOf 260 [(1, .ptr 1 0 0), (3, .ptr 2 0 0), (4, .sl 3 0 3), (5, .sl 4 0 3)]) (fun _ => [.perm, .live ⟨3, 27, [[.list 0 16 (h.conns.map (cnR 0)), .val (.int .i64 h.count), .list 0 13 (l.map (alR 0))]]⟩, .live ⟨2, 24, [[.glist 5 16 ((tQ 3).conns.map (cnG 6 7 8)), .val (.int .i64 (tQ 3).count)]]⟩, .live ⟨1, 3, [[.val (.int .i64 7)], [.val (.int .i64 7)], [.val (.int .i64 8)]]⟩, .live ⟨1, 3, [[.val (.int .i64 1)], [.val (.int .i64 2)], [.val (.int .i64 1)]]⟩, .uniq, .uniq, .uniq, .uniq]) (fun _ => True) ?_ ?_
  · ((conv => whnf); (repeat' ((first | (with_reducible first | refine qif_n ?_ | refine qif_t ‹_› ?_ | refine qif_f ‹_› ?_) | ((with_reducible refine qif_t ?_ ?_); focus decide) | ((with_reducible refine qif_f ?_ ?_); focus decide) | (with_reducible refine And.intro (orderOk_i ?ho) ?_; (case ho => kernel_rfl)) | ((with_reducible refine qif_t ?_ ?_); focus (simp []; done)) | ((with_reducible refine qif_f ?_ ?_); focus (simp []; done)) | (with_reducible first | refine qif_i (fun _ => ?_) (fun _ => ?_) | refine frcVs_i ?_ | refine frcRs_i ?_)) <;> (conv => whnf))))
    refine qAW.loopE mixed (X := Nat) (fun i => slotsOf 260 [(1, .ptr 1 0 0), (3, .ptr 2 0 0), (4, .sl 3 0 3), (5, .sl 4 0 3), (16, .val (.int .i64 i))])
      (fun i => [.perm, .live ⟨3, 27, [[.list 0 16 (h.conns.map (cnR 0)), .val (.int .i64 h.count), .list 0 13 (l.map (alR 0))]]⟩, .live ⟨2, 24, [[.glist 5 16 ((tQ i).conns.map (cnG 6 7 8)), .val (.int .i64 (tQ i).count)]]⟩, .live ⟨1, 3, [[.val (.int .i64 7)], [.val (.int .i64 7)], [.val (.int .i64 8)]]⟩, .live ⟨1, 3, [[.val (.int .i64 1)], [.val (.int .i64 2)], [.val (.int .i64 1)]]⟩, .uniq, .uniq, .uniq, .uniq]) (fun i => i ≤ 3) (fun i => 3 - i) 0 (by omega) ?_ ?_
    · as_aux_lemma =>
        (refine qConv.of hB [(1, 1), (2, 2), (3, 3), (4, 4)] [(0, 0), (5, 5), (6, 6), (7, 7), (8, 8)] [] (by rfl) ?_; focus ((conv => whnf); (repeat (refine And.intro ?_ ?_; rotate_left; (conv => whnf))); exact trivial; all_goals (try exact andT)))
        all_goals (try exact dt_AhHeTwo_ROWK2)
        all_goals trace_state
    · rintro E i hi hE
      have w := IntWalk.i64_in ((i : Int) + 1) (by omega)
      have w9 : IntKind.u8.wrap (IntKind.i64.wrap (120 + (i : Int))) = 120 + i := by rw [IntWalk.i64_in _ (by omega), IntKind.wrap_u8]; omega
      by_cases h3i : (i : Int) < 3
      · have H := t_Q i (by omega)
        have cS := hostSend_l (tQ i) ((i : Int) + 1) [120 + (i : Int)] (fun c hc => (H.ok c hc).1.I.cnLen) (by have := H.len; omega) (by simp) (by unfold withErr; rw [(hostB_iff _).2 H, cond_true]; exact t_sendE i (by omega))
        rw [t_send i (by omega), ← w9, ← w] at cS
        have hI := hI i (by omega)
        have hP := hP i (by omega)
        have ei : 0 + (i : Int).toNat = i := by omega
        have hdp := t_dp i (by omega)
        obtain ⟨m, hm⟩ : ∃ m, tN i = m := ⟨_, rfl⟩
        rw [hm] at cS hdp
        obtain ⟨v, hv⟩ : ∃ v, tI i = v := ⟨_, rfl⟩
        obtain ⟨p, hp⟩ : ∃ p, tP i = p := ⟨_, rfl⟩
        rw [hv] at cS hI
        rw [hp] at hP hdp
        have e1 : (v != v) = false := by simp
        have e2 : (m.dp != p) = false := by rw [hdp]; simp
        obtain ⟨g, hg⟩ : ∃ g, tQ i = g := ⟨_, rfl⟩
        rw [hg] at cS ⊢
        obtain ⟨gl, gc⟩ := g
        obtain ⟨y, hn⟩ : ∃ y, y = tQ (i + 1) := ⟨_, rfl⟩
        rw [← hn] at cS
        obtain ⟨yl, yc⟩ := y
        dsimp only [hoR, hwA, hwH, List.map_cons, List.map_nil, snG, sgG, sgL] at cS ⊢
        subst hE
        ((conv => whnf); (repeat' ((first | (with_reducible first | refine qif_n ?_ | refine qif_t ‹_› ?_ | refine qif_f ‹_› ?_) | ((with_reducible refine qif_t ?_ ?_); focus decide) | ((with_reducible refine qif_f ?_ ?_); focus decide) | (with_reducible refine And.intro (orderOk_i ?ho) ?_; (case ho => kernel_rfl)) | ((with_reducible refine qif_t ?_ ?_); focus (simp [h3i]; done)) | ((with_reducible refine qif_f ?_ ?_); focus (simp [h3i]; done)) | (with_reducible first | refine qif_i (fun _ => ?_) (fun _ => ?_) | refine frcVs_i ?_ | refine frcRs_i ?_) | ((with_reducible refine qCall.pure (num17_l _) ?_ ?_ ?_ ?_); rotate_left 4; exact trivial; exact plT; exact plT) | (refine qCase_i (idxS rfl rfl rfl rfl rfl rfl rfl rfl (by omega)) ?_) | (refine qCase_i (ldR' rfl rfl rfl rfl rfl (by with_reducible exact ei) hI rfl) ?_) | (refine qCase_i (ldR' rfl rfl rfl rfl rfl (by with_reducible exact ei) hP rfl) ?_) | (((with_reducible refine qCall.of (cS) [] [(0, 0), (0, 5), (0, 6), (0, 7), (0, 8)] [(0, 9)] [(1, 10), (2, 11), (3, 12), (4, 13), (5, 14), (6, 15)] [(10, .uniq), (11, .uniq), (12, .uniq), (13, .uniq), (14, .uniq), (15, .uniq)] (.tup [.agg [.glist 10 16 (yl.map (cnG 11 12 13)), .val (.int .i64 yc)], .glist 14 8 [snG 15 (v, m)], .val (.int .i64 0)]) ?hk ?_); (case hk => rfl); (conv => whnf); (repeat (refine And.intro ?_ ?_; (focus (first | exact sideT | (first | exact cns_bor rfl rfl rfl _ rfl))); (conv => whnf))); (fail_if_success (with_reducible first | refine And.intro (eqv_i ?_) ?_ | refine And.intro (ren_i ?_) ?_))))) <;> (conv => whnf))))
        refine ⟨i + 1, by omega, by omega, ?_⟩
        dsimp only
        rw [← hn]
        generalize IntKind.i64.wrap (120 + (i : Int)) = q1
        as_aux_lemma =>
          (refine qConv.of hB [(1, 1), (2, 2), (3, 3), (4, 4)] [(0, 0), (10, 5), (11, 6), (12, 7), (13, 8)] [] (by rfl) ?_; focus ((conv => whnf); (repeat (refine And.intro ?_ ?_; rotate_left; (conv => whnf))); exact trivial; all_goals (try exact andT)))
          all_goals (try (first | (simp [w]; done)))
          all_goals (try exact dt_AhHeTwo_ROWK2)
          all_goals trace_state
      · have e : i = 3 := by omega
        subst e
        subst hE
        ((conv => whnf); (repeat' ((first | (with_reducible first | refine qif_n ?_ | refine qif_t ‹_› ?_ | refine qif_f ‹_› ?_) | ((with_reducible refine qif_t ?_ ?_); focus decide) | ((with_reducible refine qif_f ?_ ?_); focus decide) | (with_reducible refine And.intro (orderOk_i ?ho) ?_; (case ho => kernel_rfl)) | ((with_reducible refine qif_t ?_ ?_); focus (simp [h3i]; done)) | ((with_reducible refine qif_f ?_ ?_); focus (simp [h3i]; done)) | (with_reducible first | refine qif_i (fun _ => ?_) (fun _ => ?_) | refine frcVs_i ?_ | refine frcRs_i ?_)) <;> (conv => whnf))))
        refine ⟨(), trivial, ?_⟩
        as_aux_lemma =>
          (refine qConv.of hB [(1, 1), (2, 2), (3, 3), (4, 4)] [(0, 0), (5, 5), (6, 6), (7, 7), (8, 8)] [] (by rfl) ?_; focus ((conv => whnf); (repeat (refine And.intro ?_ ?_; rotate_left; (conv => whnf))); exact trivial; all_goals (try exact andT)))
          all_goals (try exact dt_AhHeTwo_ROWK2)
          all_goals trace_state
  rintro ⟨⟩ -
  (try dsimp only)
  have c1 := hostTake_l (tQ 3) 7 ⟨2, 1883, 102, 0, 4, 0, []⟩ (t_Q 3 (by omega)) (by decide) (by kernel_rfl)
  rw [t_rst] at c1
  have c2 := hostSend_no tZ 2 [113] (fun c hc => (t_Z.ok c hc).1.I.cnLen) (by have := t_Z.len; omega) (by simp) (by unfold withErr; rw [(hostB_iff _).2 t_Z, cond_true, t_none]; decide)
  have c3 := hostSend_l tZ 1 [113] (fun c hc => (t_Z.ok c hc).1.I.cnLen) (by have := t_Z.len; omega) (by simp) (by unfold withErr; rw [(hostB_iff _).2 t_Z, cond_true]; exact t_one)
  have e3 : withErr tZ 2 (fun c => c.sendE [113]) = 3 := by unfold withErr; rw [(hostB_iff _).2 t_Z, cond_true]; exact t_none
  rw [e3] at c2
  obtain ⟨y, hy⟩ : ∃ y, tZ.withS 1 (fun c => c.sends [113]) = y := ⟨_, rfl⟩
  rw [hy] at c3
  obtain ⟨⟨yl, yc⟩, yo, yh⟩ := y
  obtain ⟨z, hz⟩ : ∃ z, tZ = z := ⟨_, rfl⟩
  rw [hz] at c1 c2 c3 z2
  obtain ⟨zl, zc⟩ := z
  obtain ⟨g, hg⟩ : ∃ g, tQ 3 = g := ⟨_, rfl⟩
  rw [hg] at c1 ⊢
  obtain ⟨gl, gc⟩ := g
  dsimp only [hoR, sgR, sgL, hsA, hsH, hwA, hwH, hwNo, noHo, List.map_cons, List.map_nil, hdG] at c1 c2 c3 z2 ⊢
  have hl0 : decide (0 ≤ ((l.map (alR 0)).length : Int)) = true := by simp
  have z2' : (((zl.map (cnG 10 11 12)).length : Int) == 2) = true := by rw [List.length_map, z2]; rfl
  refine qAWs.fin mixed (by simp only [chain]; rfl) ?_
  ((conv => whnf); (repeat' ((first | (with_reducible first | refine qif_n ?_ | refine qif_t ‹_› ?_ | refine qif_f ‹_› ?_) | ((with_reducible refine qif_t ?_ ?_); focus decide) | ((with_reducible refine qif_f ?_ ?_); focus decide) | (with_reducible refine And.intro (orderOk_i ?ho) ?_; (case ho => kernel_rfl)) | ((with_reducible refine qif_t ?_ ?_); focus (simp []; done)) | ((with_reducible refine qif_f ?_ ?_); focus (simp []; done)) | (with_reducible first | refine qif_i (fun _ => ?_) (fun _ => ?_) | refine frcVs_i ?_ | refine frcRs_i ?_) | ((with_reducible refine qCall.pure (num17_l _) ?_ ?_ ?_ ?_); rotate_left 4; exact trivial; exact plT; exact plT) | ((with_reducible refine qCall.pure (wakes17_l) ?_ ?_ ?_ ?_); rotate_left 4; exact trivial; exact plT; exact plT) | (refine qOpen.frz rfl rfl rfl rfl rfl ?_) | (((with_reducible refine qCall.of (c1) [] [(0, 0), (0, 5), (0, 6), (0, 7), (0, 8)] [] [(1, 9), (2, 10), (3, 11), (4, 12), (5, 13), (6, 14), (7, 15), (8, 16)] [(9, .uniq), (10, .uniq), (11, .uniq), (12, .uniq), (13, .uniq), (14, .uniq), (15, .uniq), (16, .uniq)] (.tup [.agg [.glist 9 16 (zl.map (cnG 10 11 12)), .val (.int .i64 zc)], .glist 13 8 [], .glist 15 3 [[.val (.int .i64 2), gL 16 [], .val (.bool true)]], .val (.int .i64 0)]) ?hk ?_); (case hk => rfl); (conv => whnf); (repeat (refine And.intro ?_ ?_; (focus (first | exact sideT | (first | exact cns_bor rfl rfl rfl _ rfl))); (conv => whnf))); (fail_if_success (with_reducible first | refine And.intro (eqv_i ?_) ?_ | refine And.intro (ren_i ?_) ?_)))) | (((with_reducible refine qCall.reads (c2) [(0, 0), (0, 9), (0, 10), (0, 11), (0, 12), (0, 19)] [] ?hk ?_); (case hk => rfl); (conv => whnf); (repeat (refine And.intro ?_ ?_; (focus (first | exact sideT | (first | exact cns_bor rfl rfl rfl _ rfl))); (conv => whnf))); (fail_if_success (with_reducible first | refine And.intro (eqv_i ?_) ?_ | refine And.intro (ren_i ?_) ?_)))) | (((with_reducible refine qCall.of (c3) [] [(0, 0), (0, 9), (0, 10), (0, 11), (0, 12), (0, 22)] [] [(1, 23), (2, 24), (3, 25), (4, 26), (5, 27), (6, 28)] [(23, .uniq), (24, .uniq), (25, .uniq), (26, .uniq), (27, .uniq), (28, .uniq)] (.tup [.agg [.glist 23 16 (yl.map (cnG 24 25 26)), .val (.int .i64 yc)], .glist 27 8 (yo.map (snG 28)), .val (.int .i64 0)]) ?hk ?_); (case hk => rfl); (conv => whnf); (repeat (refine And.intro ?_ ?_; (focus (first | exact sideT | (first | exact cns_bor rfl rfl rfl _ rfl))); (conv => whnf))); (fail_if_success (with_reducible first | refine And.intro (eqv_i ?_) ?_ | refine And.intro (ren_i ?_) ?_))))) <;> (conv => whnf))))
  all_goals as_aux_lemma =>
    (refine qConv.of hB [] [(0, 0)] [] (by rfl) ?_; focus ((conv => whnf); (repeat (refine And.intro ?_ ?_; rotate_left; (conv => whnf))); exact trivial; all_goals (try exact andT)))
theorem two17_l (h : Ho) (l : List Act7) (hh : HoBig h) (hl : ActLen7 l) : ACallL Try.prog 5 [.agg (shR h l)] [.perm] (.val (.bool true)) [.perm] :=
  two17_gen tI tP tS tA tM tK tN tJ tH tX tQ tZ t_take t_up t_seg t_ans sgB_tS sgB_tA tI_in t_H t_X t_Q t_send t_sendE t_dp t_rst t_Z t_none t_one rfl rfl rfl rfl (fun i => by unfold tJ; rw [List.range_succ, List.map_append]; rfl) (fun i => by unfold tJ; simp)
    (fun i h => by rcases (by omega : i = 0 ∨ i = 1 ∨ i = 2) with rfl | rfl | rfl <;> rfl) (fun i h => by rcases (by omega : i = 0 ∨ i = 1 ∨ i = 2) with rfl | rfl | rfl <;> rfl) h l hh hl
end Go.Proofs.Ytceohcbokbalhaa

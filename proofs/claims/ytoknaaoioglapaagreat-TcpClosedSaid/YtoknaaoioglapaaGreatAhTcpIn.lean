/- Connections in one state; whatever a connection hears: the laws' loops on data. Condition: lengths that an argument may have. -/
import Derived.Test.YtoknaaoioglapaaGreatAhTcpOk
import Derived.Test.YtoknaaoioglapaaGreatAhTcpNo2
namespace Go.Proofs.YtoknaaoioglapaaGreat
open Go.RowKit
set_option linter.unusedVariables false
set_option linter.unusedSimpArgs false
set_option maxRecDepth 100000
set_option maxHeartbeats 4000000
abbrev scR (c : Cn) (l : List Act) : List AV := cnR 0 c ++ [.list 0 12 (l.map (acR 0))]
theorem in_l (c : Cn) (l : List Act) (st : Int) (hc : CnBig c) (hl : ActsLen l) : ACallL Tryz.prog 13 [.agg (scR c l), .val (.int .i64 st)] [.perm] (.val (.bool true)) [.perm] := by
  have px := pl_bytes c.out
  have py := pl_parts c.parts
  have pz := pl_acts l
  have hlen : (l.map (acR 0)).length = l.length := by simp
  have cH := heavy16_l c l hc hl
  obtain ⟨b, hb⟩ : ∃ b, hv16 c l = b := ⟨_, rfl⟩
  rw [hb] at cH
  dsimp only [scR, cnR, cnL, List.cons_append, List.nil_append] at cH ⊢
  cases b with
  | true =>
    refine ACallL.of_ev mixed Tryz.func13 rfl (fun a w => Tryz.call13 a w) (congrArg Array.toList Tryz.results13) Tryz.ntmps13 fun B hB => ?_
    ((conv => whnf); (repeat' ((first | (with_reducible first | refine qif_n ?_ | refine qif_t ‹_› ?_ | refine qif_f ‹_› ?_) | ((with_reducible refine qif_t ?_ ?_); focus decide) | ((with_reducible refine qif_f ?_ ?_); focus decide) | (with_reducible refine And.intro (orderOk_i ?ho) ?_; (case ho => kernel_rfl)) | ((with_reducible refine qif_t ?_ ?_); focus (simp []; done)) | ((with_reducible refine qif_f ?_ ?_); focus (simp []; done)) | (with_reducible first | refine qif_i (fun _ => ?_) (fun _ => ?_) | refine frcVs_i ?_ | refine frcRs_i ?_) | ((with_reducible refine qCall.pure (cH) ?_ ?_ ?_ ?_); rotate_left 4; exact trivial; exact plT; exact plT)) <;> (conv => whnf))))
    all_goals (refine qConv.of hB [] [(0, 0)] [] (by rfl) ?_; focus ((conv => whnf); (repeat (refine And.intro ?_ ?_; rotate_left; (conv => whnf))); exact trivial; all_goals (try exact andT)))
  | false =>
    obtain ⟨h1, h2, h3, h4⟩ := hv16_no hb
    cases hst : (c.st != st) with
    | true =>
      refine ACallL.of_ev mixed Tryz.func13 rfl (fun a w => Tryz.call13 a w) (congrArg Array.toList Tryz.results13) Tryz.ntmps13 fun B hB => ?_
      ((conv => whnf); (repeat' ((first | (with_reducible first | refine qif_n ?_ | refine qif_t ‹_› ?_ | refine qif_f ‹_› ?_) | ((with_reducible refine qif_t ?_ ?_); focus decide) | ((with_reducible refine qif_f ?_ ?_); focus decide) | (with_reducible refine And.intro (orderOk_i ?ho) ?_; (case ho => kernel_rfl)) | ((with_reducible refine qif_t ?_ ?_); focus (simp []; done)) | ((with_reducible refine qif_f ?_ ?_); focus (simp []; done)) | (with_reducible first | refine qif_i (fun _ => ?_) (fun _ => ?_) | refine frcVs_i ?_ | refine frcRs_i ?_) | ((with_reducible refine qCall.pure (cH) ?_ ?_ ?_ ?_); rotate_left 4; exact trivial; exact plT; exact plT) | ((with_reducible refine qCall.pure (wakes16_l) ?_ ?_ ?_ ?_); rotate_left 4; exact trivial; exact plT; exact plT)) <;> (conv => whnf))))
      all_goals (refine qConv.of hB [] [(0, 0)] [] (by rfl) ?_; focus ((conv => whnf); (repeat (refine And.intro ?_ ?_; rotate_left; (conv => whnf))); exact trivial; all_goals (try exact andT)))
    | false =>
      refine ACallL.of_ev mixed Tryz.func13 rfl (fun a w => Tryz.call13 a w) (congrArg Array.toList Tryz.results13) Tryz.ntmps13 fun B hB => ?_
      ((conv => whnf); (repeat' ((first | (with_reducible first | refine qif_n ?_ | refine qif_t ‹_› ?_ | refine qif_f ‹_› ?_) | ((with_reducible refine qif_t ?_ ?_); focus decide) | ((with_reducible refine qif_f ?_ ?_); focus decide) | (with_reducible refine And.intro (orderOk_i ?ho) ?_; (case ho => kernel_rfl)) | ((with_reducible refine qif_t ?_ ?_); focus (simp []; done)) | ((with_reducible refine qif_f ?_ ?_); focus (simp []; done)) | (with_reducible first | refine qif_i (fun _ => ?_) (fun _ => ?_) | refine frcVs_i ?_ | refine frcRs_i ?_) | ((with_reducible refine qCall.pure (cH) ?_ ?_ ?_ ?_); rotate_left 4; exact trivial; exact plT; exact plT)) <;> (conv => whnf))))
      refine qAW.loopE mixed (X := Nat) (fun k => slotsOf 51 [(2, .ptr 1 0 0), (5, .val (.int .i64 k))]) (fun k => [.perm, .live ⟨17, 32, [scR c l]⟩]) (fun k => k ≤ l.length) (fun k => l.length - k) 0 (Nat.zero_le _) ?_ ?_
      · (refine qConv.of hB [(1, 1)] [(0, 0)] [] (by rfl) ?_; focus ((conv => whnf); (repeat (refine And.intro ?_ ?_; rotate_left; (conv => whnf))); exact trivial; all_goals (try exact andT)))
        all_goals first | rfl | skip
      · rintro E k hk hE
        have w := IntWalk.i64_in (k + 1) (by omega)
        dsimp only [scR, cnR, cnL, List.cons_append, List.nil_append]
        by_cases hlt : k < l.length
        · by_cases h12 : (k : Int) < 12
          · obtain ⟨a, hxk⟩ : ∃ p, l[k]? = some p := ⟨_, List.getElem?_eq_getElem hlt⟩
            have hx := h4 _ (List.mem_of_getElem? hxk)
            have hrow : (l.map (acR 0))[(k : Int).toNat]? = some (acR 0 a) := by simp [hxk]
            have pza := pl_bytes a.s.data
            have pzb := pl_bytes a.b
            dsimp only [acR, acL] at hrow
            subst hE
            ((conv => whnf); (repeat' ((first | (with_reducible first | refine qif_n ?_ | refine qif_t ‹_› ?_ | refine qif_f ‹_› ?_) | ((with_reducible refine qif_t ?_ ?_); focus decide) | ((with_reducible refine qif_f ?_ ?_); focus decide) | (with_reducible refine And.intro (orderOk_i ?ho) ?_; (case ho => kernel_rfl)) | ((with_reducible refine qif_t ?_ ?_); focus (simp [hlt, h12]; done)) | ((with_reducible refine qif_f ?_ ?_); focus (simp [hlt, h12]; done)) | (with_reducible first | refine qif_i (fun _ => ?_) (fun _ => ?_) | refine frcVs_i ?_ | refine frcRs_i ?_) | (refine qCase_i (idxL rfl rfl rfl rfl rfl rfl (by omega) hrow) ?_)) <;> (conv => whnf))))
            refine qAW.loopE mixed (X := Nat × Int) (fun x => slotsOf 51 [(2, .ptr 1 0 0), (5, .val (.int .i64 k)), (6, .ptr 2 0 0), (7, .val (.int .i64 x.1))]) (fun x => [.perm, .live ⟨17, 32, [scR c l]⟩, .live ⟨12, 45, [acR 0 { a with dw := x.2 }]⟩]) (fun x => x.1 ≤ 2) (fun x => 2 - x.1) (0, a.dw) (Nat.zero_le _) ?_ ?_
            · (refine qConv.of hB [(1, 1), (2, 2)] [(0, 0)] [] (by rfl) ?_; focus ((conv => whnf); (repeat (refine And.intro ?_ ?_; rotate_left; (conv => whnf))); exact trivial; all_goals (try exact andT)))
              all_goals first | rfl | skip
            · rintro E2 ⟨j, dw⟩ hj hE2
              dsimp only at hj ⊢
              dsimp only [scR, cnR, cnL, acR, acL, List.cons_append, List.nil_append]
              have w2 := IntWalk.i64_in (j + 1) (by omega)
              by_cases hlt2 : (j : Int) < 2
              · obtain ⟨a', ha'⟩ : ∃ r : Act, { a with dw := IntKind.i64.wrap (10 * (j : Int)) } = r := ⟨_, rfl⟩
                have e1 : a'.s = a.s := by rw [← ha']
                have e2 : a'.b = a.b := by rw [← ha']
                by_cases he : stepE c a' = 0
                · have cS := stepOk_l c a' h1 h2 (by rw [e1]; exact hx.1) (by rw [e2]; exact hx.2) he
                  obtain ⟨y, hy⟩ : ∃ r, stepS c a' = r := ⟨_, rfl⟩
                  rw [hy] at cS
                  subst ha'
                  dsimp only [cnR, cnL, acR, acL] at cS
                  subst hE2
                  ((conv => whnf); (repeat' ((first | (with_reducible first | refine qif_n ?_ | refine qif_t ‹_› ?_ | refine qif_f ‹_› ?_) | ((with_reducible refine qif_t ?_ ?_); focus decide) | ((with_reducible refine qif_f ?_ ?_); focus decide) | (with_reducible refine And.intro (orderOk_i ?ho) ?_; (case ho => kernel_rfl)) | ((with_reducible refine qif_t ?_ ?_); focus (simp [hlt2]; done)) | ((with_reducible refine qif_f ?_ ?_); focus (simp [hlt2]; done)) | (with_reducible first | refine qif_i (fun _ => ?_) (fun _ => ?_) | refine frcVs_i ?_ | refine frcRs_i ?_) | (((with_reducible refine qCall.of (cS) [] [(0, 0)] [] [(1, 3), (2, 4), (3, 5)] [(3, .uniq), (4, .uniq), (5, .uniq)] (.tup [.agg (cnL (bL 3 y.c.out) (.list 4 2 (y.c.parts.map (prt 5))) y.c), .val (.bool true)]) ?hk ?_); (case hk => rfl); (conv => whnf); (repeat (refine And.intro ?_ ?_; exact sideT; (conv => whnf))); (fail_if_success (with_reducible first | refine And.intro (eqv_i ?_) ?_ | refine And.intro (ren_i ?_) ?_))))) <;> (conv => whnf))))
                  refine ⟨(j + 1, IntKind.i64.wrap (10 * (j : Int))), by dsimp only; omega, by dsimp only; omega, ?_⟩
                  (refine qConv.of hB [(1, 1), (2, 2)] [(0, 0)] [] (by rfl) ?_; focus ((conv => whnf); (repeat (refine And.intro ?_ ?_; rotate_left; (conv => whnf))); exact trivial; all_goals (try exact andT)))
                  all_goals first | rfl | (simp [w2]; done) | skip
                · have cS := stepNo_l c a' h1 h2 (by rw [e1]; exact hx.1) (by rw [e2]; exact hx.2) he
                  subst ha'
                  dsimp only [cnR, cnL, acR, acL] at cS
                  subst hE2
                  ((conv => whnf); (repeat' ((first | (with_reducible first | refine qif_n ?_ | refine qif_t ‹_› ?_ | refine qif_f ‹_› ?_) | ((with_reducible refine qif_t ?_ ?_); focus decide) | ((with_reducible refine qif_f ?_ ?_); focus decide) | (with_reducible refine And.intro (orderOk_i ?ho) ?_; (case ho => kernel_rfl)) | ((with_reducible refine qif_t ?_ ?_); focus (simp [hlt2]; done)) | ((with_reducible refine qif_f ?_ ?_); focus (simp [hlt2]; done)) | (with_reducible first | refine qif_i (fun _ => ?_) (fun _ => ?_) | refine frcVs_i ?_ | refine frcRs_i ?_) | (((with_reducible refine qCall.of (cS) [] [(0, 0)] [] [] [] (.tup [.agg (cnR 0 c), .val (.bool true)]) ?hk ?_); (case hk => rfl); (conv => whnf); (repeat (refine And.intro ?_ ?_; exact sideT; (conv => whnf))); (fail_if_success (with_reducible first | refine And.intro (eqv_i ?_) ?_ | refine And.intro (ren_i ?_) ?_))))) <;> (conv => whnf))))
                  refine ⟨(j + 1, IntKind.i64.wrap (10 * (j : Int))), by dsimp only; omega, by dsimp only; omega, ?_⟩
                  (refine qConv.of hB [(1, 1), (2, 2)] [(0, 0)] [] (by rfl) ?_; focus ((conv => whnf); (repeat (refine And.intro ?_ ?_; rotate_left; (conv => whnf))); exact trivial; all_goals (try exact andT)))
                  all_goals first | rfl | (simp [w2]; done) | skip
              · subst hE2
                ((conv => whnf); (repeat' ((first | (with_reducible first | refine qif_n ?_ | refine qif_t ‹_› ?_ | refine qif_f ‹_› ?_) | ((with_reducible refine qif_t ?_ ?_); focus decide) | ((with_reducible refine qif_f ?_ ?_); focus decide) | (with_reducible refine And.intro (orderOk_i ?ho) ?_; (case ho => kernel_rfl)) | ((with_reducible refine qif_t ?_ ?_); focus (simp [hlt2]; done)) | ((with_reducible refine qif_f ?_ ?_); focus (simp [hlt2]; done)) | (with_reducible first | refine qif_i (fun _ => ?_) (fun _ => ?_) | refine frcVs_i ?_ | refine frcRs_i ?_)) <;> (conv => whnf))))
                refine ⟨k + 1, by omega, by omega, ?_⟩
                (refine qConv.of hB [(1, 1)] [(0, 0)] [] (by rfl) ?_; focus ((conv => whnf); (repeat (refine And.intro ?_ ?_; rotate_left; (conv => whnf))); exact trivial; all_goals (try exact andT)))
                all_goals first | rfl | (simp [w]; done) | skip
          · subst hE
            ((conv => whnf); (repeat' ((first | (with_reducible first | refine qif_n ?_ | refine qif_t ‹_› ?_ | refine qif_f ‹_› ?_) | ((with_reducible refine qif_t ?_ ?_); focus decide) | ((with_reducible refine qif_f ?_ ?_); focus decide) | (with_reducible refine And.intro (orderOk_i ?ho) ?_; (case ho => kernel_rfl)) | ((with_reducible refine qif_t ?_ ?_); focus (simp [hlt, h12]; done)) | ((with_reducible refine qif_f ?_ ?_); focus (simp [hlt, h12]; done)) | (with_reducible first | refine qif_i (fun _ => ?_) (fun _ => ?_) | refine frcVs_i ?_ | refine frcRs_i ?_) | ((with_reducible refine qCall.pure (wakes16_l) ?_ ?_ ?_ ?_); rotate_left 4; exact trivial; exact plT; exact plT)) <;> (conv => whnf))))
            all_goals (refine qConv.of hB [] [(0, 0)] [] (by rfl) ?_; focus ((conv => whnf); (repeat (refine And.intro ?_ ?_; rotate_left; (conv => whnf))); exact trivial; all_goals (try exact andT)))
        · subst hE
          ((conv => whnf); (repeat' ((first | (with_reducible first | refine qif_n ?_ | refine qif_t ‹_› ?_ | refine qif_f ‹_› ?_) | ((with_reducible refine qif_t ?_ ?_); focus decide) | ((with_reducible refine qif_f ?_ ?_); focus decide) | (with_reducible refine And.intro (orderOk_i ?ho) ?_; (case ho => kernel_rfl)) | ((with_reducible refine qif_t ?_ ?_); focus (simp [hlt]; done)) | ((with_reducible refine qif_f ?_ ?_); focus (simp [hlt]; done)) | (with_reducible first | refine qif_i (fun _ => ?_) (fun _ => ?_) | refine frcVs_i ?_ | refine frcRs_i ?_) | ((with_reducible refine qCall.pure (wakes16_l) ?_ ?_ ?_ ?_); rotate_left 4; exact trivial; exact plT; exact plT)) <;> (conv => whnf))))
          all_goals (refine qConv.of hB [] [(0, 0)] [] (by rfl) ?_; focus ((conv => whnf); (repeat (refine And.intro ?_ ?_; rotate_left; (conv => whnf))); exact trivial; all_goals (try exact andT)))
theorem tcpCheck_l (c : Cn) (hc : CnLen c) : ACallL Tryz.prog 17 [.agg (cnR 0 c)] [.perm] (.val (.int .i64 (errB c 0))) [.perm] := by
  have px := pl_bytes c.out
  have py := pl_parts c.parts
  have cM := tcpMay_l c hc
  unfold errB
  cases hm : cnB c
  all_goals
    rw [hm] at cM
    dsimp only [cnR, cnL] at cM ⊢
    refine ACallL.of_ev mixed Tryz.func17 rfl (fun a w => Tryz.call17 a w) (congrArg Array.toList Tryz.results17) Tryz.ntmps17 fun B hB => ?_
    ((conv => whnf); (repeat' ((first | (with_reducible first | refine qif_n ?_ | refine qif_t ‹_› ?_ | refine qif_f ‹_› ?_) | ((with_reducible refine qif_t ?_ ?_); focus decide) | ((with_reducible refine qif_f ?_ ?_); focus decide) | (with_reducible refine And.intro (orderOk_i ?ho) ?_; (case ho => kernel_rfl)) | (with_reducible first | refine qif_i (fun _ => ?_) (fun _ => ?_) | refine frcVs_i ?_ | refine frcRs_i ?_) | ((with_reducible refine qCall.pure (cM) ?_ ?_ ?_ ?_); rotate_left 4; exact trivial; exact plT; exact plT)) <;> (conv => whnf))))
    all_goals (refine qConv.of hB [] [(0, 0)] [] (by rfl) ?_; focus ((conv => whnf); (repeat (refine And.intro ?_ ?_; rotate_left; (conv => whnf))); exact trivial; all_goals (try exact andT)))
    all_goals rfl
theorem dt_AhTcpIn_ROWX {p : Prop} (h : p := by first | ((first | rfl | exact bytes_cells _ | exact parts_gg rfl _ | exact parts_ll rfl _ | (refine RowsRen.one ?_; (repeat (refine Cells.cons ?_ ?_; focus (first | exact .val _ | exact Ren.gg rfl _ | exact Ren.ll rfl _ | exact Ren.pgl rfl rfl _ | exact Ren.pll rfl rfl _ | fail))); exact Cells.nil) | (simp [w]; done)); done) | fail) : p := h
theorem exact16_l (c : Cn) (l : List Act) (hc : CnBig c) (hl : ActsLen l) : ACallL Tryz.prog 12 [.agg (scR c l)] [.perm] (.val (.bool true)) [.perm] := by
  have px := pl_bytes c.out
  have py := pl_parts c.parts
  have pz := pl_acts l
  have hlen : (l.map (acR 0)).length = l.length := by simp
  have cH := heavy16_l c l hc hl
  obtain ⟨b, hb⟩ : ∃ b, hv16 c l = b := ⟨_, rfl⟩
  rw [hb] at cH
  dsimp only [scR, cnR, cnL, List.cons_append, List.nil_append] at cH ⊢
  cases b with
  | true =>
    refine ACallL.of_ev mixed Tryz.func12 rfl (fun a w => Tryz.call12 a w) (congrArg Array.toList Tryz.results12) Tryz.ntmps12 fun B hB => ?_
    ((conv => whnf); (repeat' ((first | (with_reducible first | refine qif_n ?_ | refine qif_t ‹_› ?_ | refine qif_f ‹_› ?_) | ((with_reducible refine qif_t ?_ ?_); focus decide) | ((with_reducible refine qif_f ?_ ?_); focus decide) | (with_reducible refine And.intro (orderOk_i ?ho) ?_; (case ho => kernel_rfl)) | ((with_reducible refine qif_t ?_ ?_); focus (simp []; done)) | ((with_reducible refine qif_f ?_ ?_); focus (simp []; done)) | (with_reducible first | refine qif_i (fun _ => ?_) (fun _ => ?_) | refine frcVs_i ?_ | refine frcRs_i ?_) | ((with_reducible refine qCall.pure (cH) ?_ ?_ ?_ ?_); rotate_left 4; exact trivial; exact plT; exact plT)) <;> (conv => whnf))))
    all_goals (refine qConv.of hB [] [(0, 0)] [] (by rfl) ?_; focus ((conv => whnf); (repeat (refine And.intro ?_ ?_; rotate_left; (conv => whnf))); exact trivial; all_goals (try exact andT)))
  | false =>
    obtain ⟨h1, h2, h3, h4⟩ := hv16_no hb
    have cC := copyConn_l c h1
    dsimp only [cnR, cnG, cnL] at cC
    refine ACallL.of_ev mixed Tryz.func12 rfl (fun a w => Tryz.call12 a w) (congrArg Array.toList Tryz.results12) Tryz.ntmps12 fun B hB => ?_
    ((conv => whnf); (repeat' ((first | (with_reducible first | refine qif_n ?_ | refine qif_t ‹_› ?_ | refine qif_f ‹_› ?_) | ((with_reducible refine qif_t ?_ ?_); focus decide) | ((with_reducible refine qif_f ?_ ?_); focus decide) | (with_reducible refine And.intro (orderOk_i ?ho) ?_; (case ho => kernel_rfl)) | ((with_reducible refine qif_t ?_ ?_); focus (simp []; done)) | ((with_reducible refine qif_f ?_ ?_); focus (simp []; done)) | (with_reducible first | refine qif_i (fun _ => ?_) (fun _ => ?_) | refine frcVs_i ?_ | refine frcRs_i ?_) | ((with_reducible refine qCall.pure (cH) ?_ ?_ ?_ ?_); rotate_left 4; exact trivial; exact plT; exact plT) | (((with_reducible refine qCall.of (cC) [] [(0, 0)] [] [(1, 2), (2, 3), (3, 4)] [(2, .uniq), (3, .uniq), (4, .uniq)] (.agg (cnG 2 3 4 c)) ?hk ?_); (case hk => rfl); (conv => whnf); (repeat (refine And.intro ?_ ?_; exact sideT; (conv => whnf))); (fail_if_success (with_reducible first | refine And.intro (eqv_i ?_) ?_ | refine And.intro (ren_i ?_) ?_))))) <;> (conv => whnf))))
    refine qAW.loopE mixed (X := Nat × Cn) (fun x => slotsOf 55 [(1, .ptr 1 0 0), (3, .ptr 2 0 0), (4, .val (.int .i64 x.1))]) (fun x => [.perm, .live ⟨17, 32, [scR c l]⟩, cnO (cnG 3 4 5 x.2), .uniq, .uniq, .uniq]) (fun x => x.1 ≤ l.length ∧ CnLen x.2 ∧ x.2.out.length ≤ 30000) (fun x => l.length - x.1) (0, c) ⟨Nat.zero_le _, h1, h2⟩ ?_ ?_
    · have w := hlen
      (refine qConv.of hB [(1, 1), (5, 2)] [(0, 0), (2, 3), (3, 4), (4, 5)] [] (by rfl) ?_; focus ((conv => whnf); (repeat (refine And.intro ?_ ?_; rotate_left; (conv => whnf))); exact trivial; all_goals (try exact andT)))
      all_goals (try exact dt_AhTcpIn_ROWX)
    · rintro E ⟨k, cc⟩ ⟨hk, hc1, hc2⟩ hE
      dsimp only at hk hc1 hc2 ⊢
      have w := IntWalk.i64_in (k + 1) (by omega)
      dsimp only [scR, cnR, cnG, cnL, List.cons_append, List.nil_append]
      by_cases hlt : k < l.length
      · by_cases h12 : (k : Int) < 12
        · obtain ⟨a, hxk⟩ : ∃ p, l[k]? = some p := ⟨_, List.getElem?_eq_getElem hlt⟩
          have hx := h4 _ (List.mem_of_getElem? hxk)
          have hrow : (l.map (acR 0))[(k : Int).toNat]? = some (acR 0 a) := by simp [hxk]
          have pza := pl_bytes a.s.data
          have pzb := pl_bytes a.b
          have cK := tcpCheck_l cc hc1
          have cM := refConn_l cc hc1
          have cCc := copyConn_l cc hc1
          unfold errB at cK
          by_cases he : stepE cc a = 0
          · have cS := stepOk_l cc a hc1 hc2 hx.1 hx.2 he
            obtain ⟨hyL, hyI⟩ := stepS_len he
            obtain ⟨y, hy⟩ : ∃ r, stepS cc a = r := ⟨_, rfl⟩
            rw [hy] at cS hyL hyI
            have cCy := copyConn_l y.c hyL.c
            have hyo := hyI.len
            cases hm : cnB cc
            all_goals
              rw [hm] at cK cM
              simp only [cond_true, cond_false] at cK
              dsimp only [cnR, cnG, cnL, acR, acL] at cK cM cS cCy hrow
              subst hE
              ((conv => whnf); (repeat' ((first | (with_reducible first | refine qif_n ?_ | refine qif_t ‹_› ?_ | refine qif_f ‹_› ?_) | ((with_reducible refine qif_t ?_ ?_); focus decide) | ((with_reducible refine qif_f ?_ ?_); focus decide) | (with_reducible refine And.intro (orderOk_i ?ho) ?_; (case ho => kernel_rfl)) | ((with_reducible refine qif_t ?_ ?_); focus (simp [hlt, h12]; done)) | ((with_reducible refine qif_f ?_ ?_); focus (simp [hlt, h12]; done)) | (with_reducible first | refine qif_i (fun _ => ?_) (fun _ => ?_) | refine frcVs_i ?_ | refine frcRs_i ?_) | ((with_reducible refine qCall.pure (num16_l _) ?_ ?_ ?_ ?_); rotate_left 4; exact trivial; exact plT; exact plT) | (((with_reducible refine qCall.reads (cK) [(0, 0), (0, 3), (0, 4), (0, 5)] [] ?hk ?_); (case hk => rfl); (conv => whnf); (repeat (refine And.intro ?_ ?_; exact sideT; (conv => whnf))); (fail_if_success (with_reducible first | refine And.intro (eqv_i ?_) ?_ | refine And.intro (ren_i ?_) ?_)))) | (((with_reducible refine qCall.reads (cM) [(0, 0), (0, 3), (0, 4), (0, 5)] [] ?hk ?_); (case hk => rfl); (conv => whnf); (repeat (refine And.intro ?_ ?_; exact sideT; (conv => whnf))); (fail_if_success (with_reducible first | refine And.intro (eqv_i ?_) ?_ | refine And.intro (ren_i ?_) ?_)))) | (refine qOpen.neb leaf4 rfl rfl rfl ?_) | (refine qCase_i (idxL rfl rfl rfl rfl rfl rfl (by omega) hrow) ?_) | (((with_reducible refine qCall.of (cS) [] [(0, 0), (0, 3), (0, 4), (0, 5)] [] [(1, 6), (2, 7), (3, 8)] [(6, .uniq), (7, .uniq), (8, .uniq)] (.tup [.agg (cnL (bL 6 y.c.out) (.list 7 2 (y.c.parts.map (prt 8))) y.c), .val (.bool true)]) ?hk ?_); (case hk => rfl); (conv => whnf); (repeat (refine And.intro ?_ ?_; exact sideT; (conv => whnf))); (fail_if_success (with_reducible first | refine And.intro (eqv_i ?_) ?_ | refine And.intro (ren_i ?_) ?_)))) | (((with_reducible refine qCall.of (cCy) [] [(0, 0), (0, 6), (0, 7), (0, 8)] [] [(1, 10), (2, 11), (3, 12)] [(10, .uniq), (11, .uniq), (12, .uniq)] (.agg (cnG 10 11 12 y.c)) ?hk ?_); (case hk => rfl); (conv => whnf); (repeat (refine And.intro ?_ ?_; exact sideT; (conv => whnf))); (fail_if_success (with_reducible first | refine And.intro (eqv_i ?_) ?_ | refine And.intro (ren_i ?_) ?_))))) <;> (conv => whnf))))
              refine ⟨(k + 1, y.c), ⟨by dsimp only; omega, hyL.c, by dsimp only; omega⟩, by dsimp only; omega, ?_⟩
              (refine qConv.of hB [(1, 1), (2, 2)] [(0, 0), (10, 3), (11, 4), (12, 5)] [] (by rfl) ?_; focus ((conv => whnf); (repeat (refine And.intro ?_ ?_; rotate_left; (conv => whnf))); exact trivial; all_goals (try exact andT)))
              all_goals (try exact dt_AhTcpIn_ROWX)
          · have cS := stepNo2_l cc a hc1 hc2 hx.1 hx.2 he
            cases hm : cnB cc
            all_goals
              rw [hm] at cK cM
              simp only [cond_true, cond_false] at cK
              dsimp only [cnR, cnG, cnL, acR, acL] at cK cM cS cCc hrow
              subst hE
              ((conv => whnf); (repeat' ((first | (with_reducible first | refine qif_n ?_ | refine qif_t ‹_› ?_ | refine qif_f ‹_› ?_) | ((with_reducible refine qif_t ?_ ?_); focus decide) | ((with_reducible refine qif_f ?_ ?_); focus decide) | (with_reducible refine And.intro (orderOk_i ?ho) ?_; (case ho => kernel_rfl)) | ((with_reducible refine qif_t ?_ ?_); focus (simp [hlt, h12]; done)) | ((with_reducible refine qif_f ?_ ?_); focus (simp [hlt, h12]; done)) | (with_reducible first | refine qif_i (fun _ => ?_) (fun _ => ?_) | refine frcVs_i ?_ | refine frcRs_i ?_) | ((with_reducible refine qCall.pure (num16_l _) ?_ ?_ ?_ ?_); rotate_left 4; exact trivial; exact plT; exact plT) | (((with_reducible refine qCall.reads (cK) [(0, 0), (0, 3), (0, 4), (0, 5)] [] ?hk ?_); (case hk => rfl); (conv => whnf); (repeat (refine And.intro ?_ ?_; exact sideT; (conv => whnf))); (fail_if_success (with_reducible first | refine And.intro (eqv_i ?_) ?_ | refine And.intro (ren_i ?_) ?_)))) | (((with_reducible refine qCall.reads (cM) [(0, 0), (0, 3), (0, 4), (0, 5)] [] ?hk ?_); (case hk => rfl); (conv => whnf); (repeat (refine And.intro ?_ ?_; exact sideT; (conv => whnf))); (fail_if_success (with_reducible first | refine And.intro (eqv_i ?_) ?_ | refine And.intro (ren_i ?_) ?_)))) | (refine qOpen.neb leaf4 rfl rfl rfl ?_) | (refine qCase_i (idxL rfl rfl rfl rfl rfl rfl (by omega) hrow) ?_) | (((with_reducible refine qCall.of (cS) [] [(0, 0), (1, 3), (2, 4), (3, 5)] [] [] [] (.tup [.agg (cnL (bL 3 cc.out) (.list 4 2 (cc.parts.map (prt 5))) cc), .val (.bool true)]) ?hk ?_); (case hk => rfl); (conv => whnf); (repeat (refine And.intro ?_ ?_; exact sideT; (conv => whnf))); (fail_if_success (with_reducible first | refine And.intro (eqv_i ?_) ?_ | refine And.intro (ren_i ?_) ?_)))) | (((with_reducible refine qCall.of (cCc) [] [(0, 0), (0, 3), (0, 4), (0, 5)] [] [(1, 7), (2, 8), (3, 9)] [(7, .uniq), (8, .uniq), (9, .uniq)] (.agg (cnG 7 8 9 cc)) ?hk ?_); (case hk => rfl); (conv => whnf); (repeat (refine And.intro ?_ ?_; exact sideT; (conv => whnf))); (fail_if_success (with_reducible first | refine And.intro (eqv_i ?_) ?_ | refine And.intro (ren_i ?_) ?_))))) <;> (conv => whnf))))
              refine ⟨(k + 1, cc), ⟨by dsimp only; omega, hc1, hc2⟩, by dsimp only; omega, ?_⟩
              (refine qConv.of hB [(1, 1), (2, 2)] [(0, 0), (7, 3), (8, 4), (9, 5)] [] (by rfl) ?_; focus ((conv => whnf); (repeat (refine And.intro ?_ ?_; rotate_left; (conv => whnf))); exact trivial; all_goals (try exact andT)))
              all_goals (try exact dt_AhTcpIn_ROWX)
        · subst hE
          ((conv => whnf); (repeat' ((first | (with_reducible first | refine qif_n ?_ | refine qif_t ‹_› ?_ | refine qif_f ‹_› ?_) | ((with_reducible refine qif_t ?_ ?_); focus decide) | ((with_reducible refine qif_f ?_ ?_); focus decide) | (with_reducible refine And.intro (orderOk_i ?ho) ?_; (case ho => kernel_rfl)) | ((with_reducible refine qif_t ?_ ?_); focus (simp [hlt, h12]; done)) | ((with_reducible refine qif_f ?_ ?_); focus (simp [hlt, h12]; done)) | (with_reducible first | refine qif_i (fun _ => ?_) (fun _ => ?_) | refine frcVs_i ?_ | refine frcRs_i ?_) | ((with_reducible refine qCall.pure (wakes16_l) ?_ ?_ ?_ ?_); rotate_left 4; exact trivial; exact plT; exact plT)) <;> (conv => whnf))))
          all_goals (refine qConv.of hB [] [(0, 0)] [] (by rfl) ?_; focus ((conv => whnf); (repeat (refine And.intro ?_ ?_; rotate_left; (conv => whnf))); exact trivial; all_goals (try exact andT)))
      · subst hE
        ((conv => whnf); (repeat' ((first | (with_reducible first | refine qif_n ?_ | refine qif_t ‹_› ?_ | refine qif_f ‹_› ?_) | ((with_reducible refine qif_t ?_ ?_); focus decide) | ((with_reducible refine qif_f ?_ ?_); focus decide) | (with_reducible refine And.intro (orderOk_i ?ho) ?_; (case ho => kernel_rfl)) | ((with_reducible refine qif_t ?_ ?_); focus (simp [hlt]; done)) | ((with_reducible refine qif_f ?_ ?_); focus (simp [hlt]; done)) | (with_reducible first | refine qif_i (fun _ => ?_) (fun _ => ?_) | refine frcVs_i ?_ | refine frcRs_i ?_) | ((with_reducible refine qCall.pure (wakes16_l) ?_ ?_ ?_ ?_); rotate_left 4; exact trivial; exact plT; exact plT)) <;> (conv => whnf))))
        all_goals (refine qConv.of hB [] [(0, 0)] [] (by rfl) ?_; focus ((conv => whnf); (repeat (refine And.intro ?_ ?_; rotate_left; (conv => whnf))); exact trivial; all_goals (try exact andT)))
theorem law_TcpSynReceived (c : Cn) (l : List Act) (hc : CnBig c) (hl : ActsLen l) : ACallL Tryz.prog 3 [.agg (scR c l)] [.perm] (.val (.bool true)) [.perm] := by
  have px := pl_bytes c.out
  have py := pl_parts c.parts
  have pz := pl_acts l
  have cO := in_l c l 1 hc hl
  dsimp only [scR, cnR, cnL, List.cons_append, List.nil_append] at cO ⊢
  refine ACallL.of_ev mixed Tryz.func3 rfl (fun a w => Tryz.call3 a w) (congrArg Array.toList Tryz.results3) Tryz.ntmps3 fun B hB => ?_
  ((conv => whnf); (repeat' ((first | (with_reducible first | refine qif_n ?_ | refine qif_t ‹_› ?_ | refine qif_f ‹_› ?_) | ((with_reducible refine qif_t ?_ ?_); focus decide) | ((with_reducible refine qif_f ?_ ?_); focus decide) | (with_reducible refine And.intro (orderOk_i ?ho) ?_; (case ho => kernel_rfl)) | ((with_reducible refine qif_t ?_ ?_); focus (simp []; done)) | ((with_reducible refine qif_f ?_ ?_); focus (simp []; done)) | (with_reducible first | refine qif_i (fun _ => ?_) (fun _ => ?_) | refine frcVs_i ?_ | refine frcRs_i ?_) | ((with_reducible refine qCall.pure (cO) ?_ ?_ ?_ ?_); rotate_left 4; exact trivial; exact plT; exact plT)) <;> (conv => whnf))))
  all_goals (refine qConv.of hB [] [(0, 0)] [] (by rfl) ?_; focus ((conv => whnf); (repeat (refine And.intro ?_ ?_; rotate_left; (conv => whnf))); exact trivial; all_goals (try exact andT)))
theorem law_TcpEstablished (c : Cn) (l : List Act) (hc : CnBig c) (hl : ActsLen l) : ACallL Tryz.prog 4 [.agg (scR c l)] [.perm] (.val (.bool true)) [.perm] := by
  have px := pl_bytes c.out
  have py := pl_parts c.parts
  have pz := pl_acts l
  have cO := in_l c l 2 hc hl
  dsimp only [scR, cnR, cnL, List.cons_append, List.nil_append] at cO ⊢
  refine ACallL.of_ev mixed Tryz.func4 rfl (fun a w => Tryz.call4 a w) (congrArg Array.toList Tryz.results4) Tryz.ntmps4 fun B hB => ?_
  ((conv => whnf); (repeat' ((first | (with_reducible first | refine qif_n ?_ | refine qif_t ‹_› ?_ | refine qif_f ‹_› ?_) | ((with_reducible refine qif_t ?_ ?_); focus decide) | ((with_reducible refine qif_f ?_ ?_); focus decide) | (with_reducible refine And.intro (orderOk_i ?ho) ?_; (case ho => kernel_rfl)) | ((with_reducible refine qif_t ?_ ?_); focus (simp []; done)) | ((with_reducible refine qif_f ?_ ?_); focus (simp []; done)) | (with_reducible first | refine qif_i (fun _ => ?_) (fun _ => ?_) | refine frcVs_i ?_ | refine frcRs_i ?_) | ((with_reducible refine qCall.pure (cO) ?_ ?_ ?_ ?_); rotate_left 4; exact trivial; exact plT; exact plT)) <;> (conv => whnf))))
  all_goals (refine qConv.of hB [] [(0, 0)] [] (by rfl) ?_; focus ((conv => whnf); (repeat (refine And.intro ?_ ?_; rotate_left; (conv => whnf))); exact trivial; all_goals (try exact andT)))
theorem law_TcpFinWait1 (c : Cn) (l : List Act) (hc : CnBig c) (hl : ActsLen l) : ACallL Tryz.prog 5 [.agg (scR c l)] [.perm] (.val (.bool true)) [.perm] := by
  have px := pl_bytes c.out
  have py := pl_parts c.parts
  have pz := pl_acts l
  have cO := in_l c l 3 hc hl
  dsimp only [scR, cnR, cnL, List.cons_append, List.nil_append] at cO ⊢
  refine ACallL.of_ev mixed Tryz.func5 rfl (fun a w => Tryz.call5 a w) (congrArg Array.toList Tryz.results5) Tryz.ntmps5 fun B hB => ?_
  ((conv => whnf); (repeat' ((first | (with_reducible first | refine qif_n ?_ | refine qif_t ‹_› ?_ | refine qif_f ‹_› ?_) | ((with_reducible refine qif_t ?_ ?_); focus decide) | ((with_reducible refine qif_f ?_ ?_); focus decide) | (with_reducible refine And.intro (orderOk_i ?ho) ?_; (case ho => kernel_rfl)) | ((with_reducible refine qif_t ?_ ?_); focus (simp []; done)) | ((with_reducible refine qif_f ?_ ?_); focus (simp []; done)) | (with_reducible first | refine qif_i (fun _ => ?_) (fun _ => ?_) | refine frcVs_i ?_ | refine frcRs_i ?_) | ((with_reducible refine qCall.pure (cO) ?_ ?_ ?_ ?_); rotate_left 4; exact trivial; exact plT; exact plT)) <;> (conv => whnf))))
  all_goals (refine qConv.of hB [] [(0, 0)] [] (by rfl) ?_; focus ((conv => whnf); (repeat (refine And.intro ?_ ?_; rotate_left; (conv => whnf))); exact trivial; all_goals (try exact andT)))
theorem law_TcpFinWait2 (c : Cn) (l : List Act) (hc : CnBig c) (hl : ActsLen l) : ACallL Tryz.prog 6 [.agg (scR c l)] [.perm] (.val (.bool true)) [.perm] := by
  have px := pl_bytes c.out
  have py := pl_parts c.parts
  have pz := pl_acts l
  have cO := in_l c l 4 hc hl
  dsimp only [scR, cnR, cnL, List.cons_append, List.nil_append] at cO ⊢
  refine ACallL.of_ev mixed Tryz.func6 rfl (fun a w => Tryz.call6 a w) (congrArg Array.toList Tryz.results6) Tryz.ntmps6 fun B hB => ?_
  ((conv => whnf); (repeat' ((first | (with_reducible first | refine qif_n ?_ | refine qif_t ‹_› ?_ | refine qif_f ‹_› ?_) | ((with_reducible refine qif_t ?_ ?_); focus decide) | ((with_reducible refine qif_f ?_ ?_); focus decide) | (with_reducible refine And.intro (orderOk_i ?ho) ?_; (case ho => kernel_rfl)) | ((with_reducible refine qif_t ?_ ?_); focus (simp []; done)) | ((with_reducible refine qif_f ?_ ?_); focus (simp []; done)) | (with_reducible first | refine qif_i (fun _ => ?_) (fun _ => ?_) | refine frcVs_i ?_ | refine frcRs_i ?_) | ((with_reducible refine qCall.pure (cO) ?_ ?_ ?_ ?_); rotate_left 4; exact trivial; exact plT; exact plT)) <;> (conv => whnf))))
  all_goals (refine qConv.of hB [] [(0, 0)] [] (by rfl) ?_; focus ((conv => whnf); (repeat (refine And.intro ?_ ?_; rotate_left; (conv => whnf))); exact trivial; all_goals (try exact andT)))
theorem law_TcpCloseWait (c : Cn) (l : List Act) (hc : CnBig c) (hl : ActsLen l) : ACallL Tryz.prog 7 [.agg (scR c l)] [.perm] (.val (.bool true)) [.perm] := by
  have px := pl_bytes c.out
  have py := pl_parts c.parts
  have pz := pl_acts l
  have cO := in_l c l 5 hc hl
  dsimp only [scR, cnR, cnL, List.cons_append, List.nil_append] at cO ⊢
  refine ACallL.of_ev mixed Tryz.func7 rfl (fun a w => Tryz.call7 a w) (congrArg Array.toList Tryz.results7) Tryz.ntmps7 fun B hB => ?_
  ((conv => whnf); (repeat' ((first | (with_reducible first | refine qif_n ?_ | refine qif_t ‹_› ?_ | refine qif_f ‹_› ?_) | ((with_reducible refine qif_t ?_ ?_); focus decide) | ((with_reducible refine qif_f ?_ ?_); focus decide) | (with_reducible refine And.intro (orderOk_i ?ho) ?_; (case ho => kernel_rfl)) | ((with_reducible refine qif_t ?_ ?_); focus (simp []; done)) | ((with_reducible refine qif_f ?_ ?_); focus (simp []; done)) | (with_reducible first | refine qif_i (fun _ => ?_) (fun _ => ?_) | refine frcVs_i ?_ | refine frcRs_i ?_) | ((with_reducible refine qCall.pure (cO) ?_ ?_ ?_ ?_); rotate_left 4; exact trivial; exact plT; exact plT)) <;> (conv => whnf))))
  all_goals (refine qConv.of hB [] [(0, 0)] [] (by rfl) ?_; focus ((conv => whnf); (repeat (refine And.intro ?_ ?_; rotate_left; (conv => whnf))); exact trivial; all_goals (try exact andT)))
theorem law_TcpClosings (c : Cn) (l : List Act) (hc : CnBig c) (hl : ActsLen l) : ACallL Tryz.prog 8 [.agg (scR c l)] [.perm] (.val (.bool true)) [.perm] := by
  have px := pl_bytes c.out
  have py := pl_parts c.parts
  have pz := pl_acts l
  have cO := in_l c l 6 hc hl
  dsimp only [scR, cnR, cnL, List.cons_append, List.nil_append] at cO ⊢
  refine ACallL.of_ev mixed Tryz.func8 rfl (fun a w => Tryz.call8 a w) (congrArg Array.toList Tryz.results8) Tryz.ntmps8 fun B hB => ?_
  ((conv => whnf); (repeat' ((first | (with_reducible first | refine qif_n ?_ | refine qif_t ‹_› ?_ | refine qif_f ‹_› ?_) | ((with_reducible refine qif_t ?_ ?_); focus decide) | ((with_reducible refine qif_f ?_ ?_); focus decide) | (with_reducible refine And.intro (orderOk_i ?ho) ?_; (case ho => kernel_rfl)) | ((with_reducible refine qif_t ?_ ?_); focus (simp []; done)) | ((with_reducible refine qif_f ?_ ?_); focus (simp []; done)) | (with_reducible first | refine qif_i (fun _ => ?_) (fun _ => ?_) | refine frcVs_i ?_ | refine frcRs_i ?_) | ((with_reducible refine qCall.pure (cO) ?_ ?_ ?_ ?_); rotate_left 4; exact trivial; exact plT; exact plT)) <;> (conv => whnf))))
  all_goals (refine qConv.of hB [] [(0, 0)] [] (by rfl) ?_; focus ((conv => whnf); (repeat (refine And.intro ?_ ?_; rotate_left; (conv => whnf))); exact trivial; all_goals (try exact andT)))
theorem law_TcpLastAck (c : Cn) (l : List Act) (hc : CnBig c) (hl : ActsLen l) : ACallL Tryz.prog 9 [.agg (scR c l)] [.perm] (.val (.bool true)) [.perm] := by
  have px := pl_bytes c.out
  have py := pl_parts c.parts
  have pz := pl_acts l
  have cO := in_l c l 7 hc hl
  dsimp only [scR, cnR, cnL, List.cons_append, List.nil_append] at cO ⊢
  refine ACallL.of_ev mixed Tryz.func9 rfl (fun a w => Tryz.call9 a w) (congrArg Array.toList Tryz.results9) Tryz.ntmps9 fun B hB => ?_
  ((conv => whnf); (repeat' ((first | (with_reducible first | refine qif_n ?_ | refine qif_t ‹_› ?_ | refine qif_f ‹_› ?_) | ((with_reducible refine qif_t ?_ ?_); focus decide) | ((with_reducible refine qif_f ?_ ?_); focus decide) | (with_reducible refine And.intro (orderOk_i ?ho) ?_; (case ho => kernel_rfl)) | ((with_reducible refine qif_t ?_ ?_); focus (simp []; done)) | ((with_reducible refine qif_f ?_ ?_); focus (simp []; done)) | (with_reducible first | refine qif_i (fun _ => ?_) (fun _ => ?_) | refine frcVs_i ?_ | refine frcRs_i ?_) | ((with_reducible refine qCall.pure (cO) ?_ ?_ ?_ ?_); rotate_left 4; exact trivial; exact plT; exact plT)) <;> (conv => whnf))))
  all_goals (refine qConv.of hB [] [(0, 0)] [] (by rfl) ?_; focus ((conv => whnf); (repeat (refine And.intro ?_ ?_; rotate_left; (conv => whnf))); exact trivial; all_goals (try exact andT)))
theorem law_TcpTimeWait (c : Cn) (l : List Act) (hc : CnBig c) (hl : ActsLen l) : ACallL Tryz.prog 10 [.agg (scR c l)] [.perm] (.val (.bool true)) [.perm] := by
  have px := pl_bytes c.out
  have py := pl_parts c.parts
  have pz := pl_acts l
  have cO := in_l c l 8 hc hl
  dsimp only [scR, cnR, cnL, List.cons_append, List.nil_append] at cO ⊢
  refine ACallL.of_ev mixed Tryz.func10 rfl (fun a w => Tryz.call10 a w) (congrArg Array.toList Tryz.results10) Tryz.ntmps10 fun B hB => ?_
  ((conv => whnf); (repeat' ((first | (with_reducible first | refine qif_n ?_ | refine qif_t ‹_› ?_ | refine qif_f ‹_› ?_) | ((with_reducible refine qif_t ?_ ?_); focus decide) | ((with_reducible refine qif_f ?_ ?_); focus decide) | (with_reducible refine And.intro (orderOk_i ?ho) ?_; (case ho => kernel_rfl)) | ((with_reducible refine qif_t ?_ ?_); focus (simp []; done)) | ((with_reducible refine qif_f ?_ ?_); focus (simp []; done)) | (with_reducible first | refine qif_i (fun _ => ?_) (fun _ => ?_) | refine frcVs_i ?_ | refine frcRs_i ?_) | ((with_reducible refine qCall.pure (cO) ?_ ?_ ?_ ?_); rotate_left 4; exact trivial; exact plT; exact plT)) <;> (conv => whnf))))
  all_goals (refine qConv.of hB [] [(0, 0)] [] (by rfl) ?_; focus ((conv => whnf); (repeat (refine And.intro ?_ ?_; rotate_left; (conv => whnf))); exact trivial; all_goals (try exact andT)))
theorem law_TcpClosed (c : Cn) (l : List Act) (hc : CnBig c) (hl : ActsLen l) : ACallL Tryz.prog 11 [.agg (scR c l)] [.perm] (.val (.bool true)) [.perm] := by
  have px := pl_bytes c.out
  have py := pl_parts c.parts
  have pz := pl_acts l
  have cO := in_l c l 0 hc hl
  dsimp only [scR, cnR, cnL, List.cons_append, List.nil_append] at cO ⊢
  refine ACallL.of_ev mixed Tryz.func11 rfl (fun a w => Tryz.call11 a w) (congrArg Array.toList Tryz.results11) Tryz.ntmps11 fun B hB => ?_
  ((conv => whnf); (repeat' ((first | (with_reducible first | refine qif_n ?_ | refine qif_t ‹_› ?_ | refine qif_f ‹_› ?_) | ((with_reducible refine qif_t ?_ ?_); focus decide) | ((with_reducible refine qif_f ?_ ?_); focus decide) | (with_reducible refine And.intro (orderOk_i ?ho) ?_; (case ho => kernel_rfl)) | ((with_reducible refine qif_t ?_ ?_); focus (simp []; done)) | ((with_reducible refine qif_f ?_ ?_); focus (simp []; done)) | (with_reducible first | refine qif_i (fun _ => ?_) (fun _ => ?_) | refine frcVs_i ?_ | refine frcRs_i ?_) | ((with_reducible refine qCall.pure (cO) ?_ ?_ ?_ ?_); rotate_left 4; exact trivial; exact plT; exact plT)) <;> (conv => whnf))))
  all_goals (refine qConv.of hB [] [(0, 0)] [] (by rfl) ?_; focus ((conv => whnf); (repeat (refine And.intro ?_ ?_; rotate_left; (conv => whnf))); exact trivial; all_goals (try exact andT)))
end Go.Proofs.YtoknaaoioglapaaGreat

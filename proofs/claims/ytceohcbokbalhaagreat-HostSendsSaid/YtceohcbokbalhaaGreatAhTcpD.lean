/- A connection sends what it may: on data. Conditions: bounds. -/
import Derived.Test.YtceohcbokbalhaaGreatPkAG
namespace Go.Proofs.YtceohcbokbalhaaGreat
open Go.RowKit
set_option linter.unusedVariables false
set_option linter.unusedSimpArgs false
set_option maxRecDepth 100000
set_option maxHeartbeats 4000000
theorem dt_AhTcpD_ROW {p : Prop} (h : p := by first | ((first | rfl | (refine RowsRen.one ?_; (repeat (refine Cells.cons ?_ ?_; focus (first | exact .val _ | exact Ren.gg rfl _ | exact Ren.ll rfl _ | exact Ren.g2 rfl _ | exact Ren.oo rfl _ _ | exact Ren.vnil _ _ | exact Ren.vgnil _ _ | exact Ren.sgs rfl rfl _ | exact Ren.sgs1 rfl rfl rfl rfl | exact Ren.pgl rfl rfl _ | fail))); exact Cells.nil) | exact segs_gg rfl _ | exact parts_gg rfl _ | exact bytes_cells _); done) | fail) : p := h
theorem pump_l (x : Stp) (hP : PumpOk x.c) (hs : x.out.length ≤ 100000) :
    ACallL Tryz.prog 94 [.ptr 1 0 0] [.perm, spO (spR true 6 7 x), .perm, .perm, .perm, .perm, .uniq, .uniq]
      (.tup []) [.perm, spO (spR true 8 9 x.pump), .perm, .perm, .perm, .perm, .dead, .dead, .uniq, .uniq] := by
  dsimp only [spR, spL, oL]
  refine ACallL.of_ev mixed Tryz.func94 rfl (fun a w => Tryz.call94 a w) (congrArg Array.toList Tryz.results94) Tryz.ntmps94 fun B hB => ?_
  ((conv => whnf); (repeat' ((first | (with_reducible first | refine qif_n ?_ | refine qif_t ‹_› ?_ | refine qif_f ‹_› ?_) | ((with_reducible refine qif_t ?_ ?_); focus decide) | ((with_reducible refine qif_f ?_ ?_); focus decide) | (with_reducible refine And.intro (orderOk_i ?ho) ?_; (case ho => kernel_rfl)) | (with_reducible first | refine qif_i (fun _ => ?_) (fun _ => ?_) | refine frcVs_i ?_ | refine frcRs_i ?_)) <;> (conv => whnf))))
  refine qAW.scopeL mixed rfl (X := Stp) (fun y => slotsOf 145 [(0, .ptr 1 0 0)]) (fun y => [.perm, spO (spR true 8 9 y), .perm, .perm, .perm, .perm, .dead, .dead, .uniq, .uniq])
    (fun y => PumpOk y.c ∧ y.out.length + (y.c.len - y.c.sent) ≤ x.out.length + 8192 ∧ pumpGo y.c.out.length y = pumpGo x.c.out.length x) (fun y => (y.c.len - y.c.sent).toNat) ?_ ?_
  · ((conv => whnf); (repeat' ((first | (with_reducible first | refine qif_n ?_ | refine qif_t ‹_› ?_ | refine qif_f ‹_› ?_) | ((with_reducible refine qif_t ?_ ?_); focus decide) | ((with_reducible refine qif_f ?_ ?_); focus decide) | (with_reducible refine And.intro (orderOk_i ?ho) ?_; (case ho => kernel_rfl)) | (with_reducible first | refine qif_i (fun _ => ?_) (fun _ => ?_) | refine frcVs_i ?_ | refine frcRs_i ?_)) <;> (conv => whnf))))
    refine ⟨x, ⟨hP, by have := hP.s0; have := hP.len; unfold Cn.len; omega, rfl⟩, ?_⟩
    (refine qConv.of hB [(1, 1)] [(0, 0), (2, 2), (3, 3), (4, 4), (5, 5), (6, 8), (7, 9)] [] (by rfl) ?_; focus ((conv => whnf); (repeat (refine And.intro ?_ ?_; rotate_left; (conv => whnf))); exact trivial; all_goals (try exact andT)))
    all_goals (try exact dt_AhTcpD_ROW)
  · rintro E y ⟨hy, hb, hg⟩ hE
    have h0 := hy.s0
    have h1 := hy.s1
    have h2 := hy.len
    have h3 := hy.win
    have lo : (y.c.out.map bR).length = y.c.out.length := by simp
    unfold Cn.sent at h0 h1
    have w1 := IntWalk.i64_in ((y.c.out.length : Int) - wdiff y.c.nx y.c.una) (by omega)
    have w2 := IntWalk.i64_in (y.c.win - wdiff y.c.nx y.c.una) (by omega)
    dsimp only [spR, spL, oL]
    by_cases hn : 0 < y.c.pumpN
    · obtain ⟨a, ha⟩ : ∃ a : Nat, wdiff y.c.nx y.c.una = a := ⟨(wdiff y.c.nx y.c.una).toNat, by omega⟩
      obtain ⟨N, hN⟩ : ∃ N : Nat, y.c.pumpN = N := ⟨y.c.pumpN.toNat, by omega⟩
      have hle := pumpN_le hy
      have h1' := pump1_ok hy hn
      have h2' := pump1_sent hy hn
      have hgs := pumpGo_step hy hn
      have hM : min (min 536 (IntKind.i64.wrap (((y.c.out.map bR).length : Int) - wdiff y.c.nx y.c.una))) (IntKind.i64.wrap (y.c.win - wdiff y.c.nx y.c.una)) = N := by rw [lo, w1, w2, ← hN]; unfold Cn.pumpN Cn.len Cn.sent; omega
      have hcond : decide (0 < min (min 536 (IntKind.i64.wrap (((y.c.out.map bR).length : Int) - wdiff y.c.nx y.c.una))) (IntKind.i64.wrap (y.c.win - wdiff y.c.nx y.c.una))) = true := by rw [hM]; simp; omega
      have hsn : y.c.sent = a := ha
      have w3 : IntKind.i64.wrap (wdiff y.c.nx y.c.una + min (min 536 (IntKind.i64.wrap (((y.c.out.map bR).length : Int) - wdiff y.c.nx y.c.una))) (IntKind.i64.wrap (y.c.win - wdiff y.c.nx y.c.una))) = a + N := by rw [hM, ha]; exact IntWalk.i64_in _ (by omega)
      obtain ⟨data, hda⟩ : ∃ d, (y.c.out.drop a).take N = d := ⟨_, rfl⟩
      have cS := send_l true y y.c.nx 24 data (by rw [← hda]; simp; omega) (by unfold Cn.len at hb; omega)
      have hcb : 0 ≤ (some (wdiff y.c.nx y.c.una)).getD 0 ∧ (some (wdiff y.c.nx y.c.una)).getD 0 ≤ (some (IntKind.i64.wrap (wdiff y.c.nx y.c.una + min (min 536 (IntKind.i64.wrap (((y.c.out.map bR).length : Int) - wdiff y.c.nx y.c.una))) (IntKind.i64.wrap (y.c.win - wdiff y.c.nx y.c.una))))).getD ((y.c.out.map bR).length : Int) ∧ (some (IntKind.i64.wrap (wdiff y.c.nx y.c.una + min (min 536 (IntKind.i64.wrap (((y.c.out.map bR).length : Int) - wdiff y.c.nx y.c.una))) (IntKind.i64.wrap (y.c.win - wdiff y.c.nx y.c.una))))).getD ((y.c.out.map bR).length : Int) ≤ (none : Option Int).getD ((y.c.out.map bR).length : Int) ∧ (none : Option Int).getD ((y.c.out.map bR).length : Int) ≤ ((y.c.out.map bR).length : Int) ∧ ((none : Option Int) = none ∨ (some (IntKind.i64.wrap (wdiff y.c.nx y.c.una + min (min 536 (IntKind.i64.wrap (((y.c.out.map bR).length : Int) - wdiff y.c.nx y.c.una))) (IntKind.i64.wrap (y.c.win - wdiff y.c.nx y.c.una))))) ≠ none) := by
        simp only [Option.getD_some, Option.getD_none]
        rw [w3, ha, lo]
        exact ⟨by omega, by omega, by omega, by omega, .inl trivial⟩
      have hsl : ((y.c.out.map bR).drop ((some (wdiff y.c.nx y.c.una)).getD 0).toNat).take ((some (IntKind.i64.wrap (wdiff y.c.nx y.c.una + min (min 536 (IntKind.i64.wrap (((y.c.out.map bR).length : Int) - wdiff y.c.nx y.c.una))) (IntKind.i64.wrap (y.c.win - wdiff y.c.nx y.c.una))))).getD ((y.c.out.map bR).length : Int) - (some (wdiff y.c.nx y.c.una)).getD 0).toNat = data.map bR := by
        simp only [Option.getD_some]
        rw [w3, ha, ← hda, List.map_take, List.map_drop, show ((a : Int) + N - a).toNat = N by omega, Int.toNat_natCast]
      subst hE
      ((conv => whnf); (repeat' ((first | (with_reducible first | refine qif_n ?_ | refine qif_t ‹_› ?_ | refine qif_f ‹_› ?_) | ((with_reducible refine qif_t ?_ ?_); focus decide) | ((with_reducible refine qif_f ?_ ?_); focus decide) | (with_reducible refine And.intro (orderOk_i ?ho) ?_; (case ho => kernel_rfl)) | ((with_reducible refine qif_t ?_ ?_); focus (simp [lo, w1, w2]; done)) | ((with_reducible refine qif_f ?_ ?_); focus (simp [lo, w1, w2]; done)) | (with_reducible first | refine qif_i (fun _ => ?_) (fun _ => ?_) | refine frcVs_i ?_ | refine frcRs_i ?_) | (refine qCall.sent rfl ?_) | (refine qCase_i (slG' rfl rfl rfl rfl rfl rfl rfl rfl hcb hsl) ?_)) <;> (conv => whnf))))
      ((with_reducible refine qCall.of (cS) [(1, 1)] [(0, 0), (2, 2), (3, 3), (4, 4), (5, 5), (6, 8), (7, 9)] [] [(8, 10), (9, 11)] [(1, spO (spR true 10 11 (y.seg y.c.nx 24 data))), (8, .dead), (9, .dead), (10, .uniq), (11, .uniq)] (.tup []) ?hk ?_); (case hk => rfl); (conv => whnf); (repeat (refine And.intro ?_ ?_; exact sideT; (conv => whnf))); (fail_if_success (with_reducible first | refine And.intro (eqv_i ?_) ?_ | refine And.intro (ren_i ?_) ?_)))
      ((conv => whnf); (repeat' ((first | (with_reducible first | refine qif_n ?_ | refine qif_t ‹_› ?_ | refine qif_f ‹_› ?_) | ((with_reducible refine qif_t ?_ ?_); focus decide) | ((with_reducible refine qif_f ?_ ?_); focus decide) | (with_reducible refine And.intro (orderOk_i ?ho) ?_; (case ho => kernel_rfl)) | (with_reducible first | refine qif_i (fun _ => ?_) (fun _ => ?_) | refine frcVs_i ?_ | refine frcRs_i ?_) | ((with_reducible refine qCall.pure (spanAdd_l _ _) ?_ ?_ ?_ ?_); rotate_left 4; exact trivial; exact plT; exact plT)) <;> (conv => whnf))))
      have hp1 : y.pump1 = { c := { y.c with nx := wadd y.c.nx N }, out := y.out ++ [⟨y.c.port, y.c.pp, y.c.nx, y.c.inx, 24, 2048, data⟩], told := y.told } := by
        unfold Stp.pump1; rw [hN, hsn, Int.toNat_natCast, Int.toNat_natCast, hda]
      refine ⟨y.pump1, ⟨h1', ?_, ?_⟩, ?_, ?_⟩
      · rw [h2']
        have e1 : y.pump1.c.len = y.c.len := rfl
        have e2 : y.pump1.out.length = y.out.length + 1 := by rw [hp1]; simp
        rw [e1, e2]; omega
      · rw [← hgs]; exact hg
      · rw [h2']
        have e1 : y.pump1.c.len = y.c.len := rfl
        have e3 : y.c.len = y.c.out.length := rfl
        rw [e1]; omega
      · rw [hp1, hM]
        (refine qConv.of hB [(1, 1)] [(0, 0), (2, 2), (3, 3), (4, 4), (5, 5), (10, 8), (11, 9)] [] (by rfl) ?_; focus ((conv => whnf); (repeat (refine And.intro ?_ ?_; rotate_left; (conv => whnf))); exact trivial; all_goals (try exact andT)))
        all_goals (try exact dt_AhTcpD_ROW)
    · have hxe : pumpGo x.c.out.length x = y := by rw [← hg]; exact pumpGo_end (by omega) _
      have hM : min (min 536 (IntKind.i64.wrap (((y.c.out.map bR).length : Int) - wdiff y.c.nx y.c.una))) (IntKind.i64.wrap (y.c.win - wdiff y.c.nx y.c.una)) = y.c.pumpN := by rw [lo, w1, w2]; unfold Cn.pumpN Cn.len Cn.sent; omega
      have hcond : decide (0 < min (min 536 (IntKind.i64.wrap (((y.c.out.map bR).length : Int) - wdiff y.c.nx y.c.una))) (IntKind.i64.wrap (y.c.win - wdiff y.c.nx y.c.una))) = false := by rw [hM]; simp; omega
      have hx0 : x.pump = y.pump2.pump3 := by unfold Stp.pump; rw [hxe]
      subst hE
      rcases (Bool.eq_false_or_eq_true y.c.closing).symm with hcl | hcl
      · have hx : x.pump = y.pump3 := by rw [hx0]; unfold Stp.pump2; rw [if_neg (by rw [hcl]; simp)]
        rcases (Bool.eq_false_or_eq_true y.c.tm.on).symm with ho | ho
        · cases hp : decide (0 < wdiff y.c.nx y.c.una)
          · cases hq : decide (wdiff y.c.nx y.c.una < ((y.c.out.map bR).length : Int))
            · have hz : x.pump = y := by
                rw [hx]; unfold Stp.pump3; rw [if_neg]
                rw [decide_eq_false_iff_not] at hp hq
                rw [lo] at hq
                rintro ⟨_, h | h⟩
                · exact hp h
                · exact hq h
              rw [hz]
              ((conv => whnf); (repeat' ((first | (with_reducible first | refine qif_n ?_ | refine qif_t ‹_› ?_ | refine qif_f ‹_› ?_) | ((with_reducible refine qif_t ?_ ?_); focus decide) | ((with_reducible refine qif_f ?_ ?_); focus decide) | (with_reducible refine And.intro (orderOk_i ?ho) ?_; (case ho => kernel_rfl)) | ((with_reducible refine qif_t ?_ ?_); focus (simp [lo]; done)) | ((with_reducible refine qif_f ?_ ?_); focus (simp [lo]; done)) | (with_reducible first | refine qif_i (fun _ => ?_) (fun _ => ?_) | refine frcVs_i ?_ | refine frcRs_i ?_) | (refine qCall.sent rfl ?_) | ((with_reducible refine qCall.pure (spanAdd_l _ _) ?_ ?_ ?_ ?_); rotate_left 4; exact trivial; exact plT; exact plT) | ((with_reducible refine qCall.pure (tnew_l _) ?_ ?_ ?_ ?_); rotate_left 4; exact trivial; exact plT; exact plT)) <;> (conv => whnf))))
              (refine qConv.of hB [(1, 1)] [(0, 0), (2, 2), (3, 3), (4, 4), (5, 5), (8, 8), (9, 9)] [] (by rfl) ?_; focus ((conv => whnf); (repeat (refine And.intro ?_ ?_; rotate_left; (conv => whnf))); exact trivial; all_goals (try exact andT)))
              all_goals (try exact dt_AhTcpD_ROW)
            · have hz : x.pump = { y with c := { (y).c with tm := tmNew 3 } } := by
                rw [hx]; unfold Stp.pump3; rw [if_pos]
                rw [decide_eq_true_eq, lo] at hq
                exact ⟨ho, .inr hq⟩
              rw [hz]
              ((conv => whnf); (repeat' ((first | (with_reducible first | refine qif_n ?_ | refine qif_t ‹_› ?_ | refine qif_f ‹_› ?_) | ((with_reducible refine qif_t ?_ ?_); focus decide) | ((with_reducible refine qif_f ?_ ?_); focus decide) | (with_reducible refine And.intro (orderOk_i ?ho) ?_; (case ho => kernel_rfl)) | ((with_reducible refine qif_t ?_ ?_); focus (simp [lo]; done)) | ((with_reducible refine qif_f ?_ ?_); focus (simp [lo]; done)) | (with_reducible first | refine qif_i (fun _ => ?_) (fun _ => ?_) | refine frcVs_i ?_ | refine frcRs_i ?_) | (refine qCall.sent rfl ?_) | ((with_reducible refine qCall.pure (spanAdd_l _ _) ?_ ?_ ?_ ?_); rotate_left 4; exact trivial; exact plT; exact plT) | ((with_reducible refine qCall.pure (tnew_l _) ?_ ?_ ?_ ?_); rotate_left 4; exact trivial; exact plT; exact plT)) <;> (conv => whnf))))
              (refine qConv.of hB [(1, 1)] [(0, 0), (2, 2), (3, 3), (4, 4), (5, 5), (8, 8), (9, 9)] [] (by rfl) ?_; focus ((conv => whnf); (repeat (refine And.intro ?_ ?_; rotate_left; (conv => whnf))); exact trivial; all_goals (try exact andT)))
              all_goals (try exact dt_AhTcpD_ROW)
          · have hz : x.pump = { y with c := { (y).c with tm := tmNew 3 } } := by
              rw [hx]; unfold Stp.pump3; rw [if_pos]
              rw [decide_eq_true_eq] at hp
              exact ⟨ho, .inl hp⟩
            rw [hz]
            ((conv => whnf); (repeat' ((first | (with_reducible first | refine qif_n ?_ | refine qif_t ‹_› ?_ | refine qif_f ‹_› ?_) | ((with_reducible refine qif_t ?_ ?_); focus decide) | ((with_reducible refine qif_f ?_ ?_); focus decide) | (with_reducible refine And.intro (orderOk_i ?ho) ?_; (case ho => kernel_rfl)) | ((with_reducible refine qif_t ?_ ?_); focus (simp [lo]; done)) | ((with_reducible refine qif_f ?_ ?_); focus (simp [lo]; done)) | (with_reducible first | refine qif_i (fun _ => ?_) (fun _ => ?_) | refine frcVs_i ?_ | refine frcRs_i ?_) | (refine qCall.sent rfl ?_) | ((with_reducible refine qCall.pure (spanAdd_l _ _) ?_ ?_ ?_ ?_); rotate_left 4; exact trivial; exact plT; exact plT) | ((with_reducible refine qCall.pure (tnew_l _) ?_ ?_ ?_ ?_); rotate_left 4; exact trivial; exact plT; exact plT)) <;> (conv => whnf))))
            (refine qConv.of hB [(1, 1)] [(0, 0), (2, 2), (3, 3), (4, 4), (5, 5), (8, 8), (9, 9)] [] (by rfl) ?_; focus ((conv => whnf); (repeat (refine And.intro ?_ ?_; rotate_left; (conv => whnf))); exact trivial; all_goals (try exact andT)))
            all_goals (try exact dt_AhTcpD_ROW)
        · have hz : x.pump = y := by
            rw [hx]; unfold Stp.pump3; rw [if_neg]
            rintro ⟨h, _⟩
            exact absurd (ho.symm.trans h) (by simp)
          rw [hz]
          ((conv => whnf); (repeat' ((first | (with_reducible first | refine qif_n ?_ | refine qif_t ‹_› ?_ | refine qif_f ‹_› ?_) | ((with_reducible refine qif_t ?_ ?_); focus decide) | ((with_reducible refine qif_f ?_ ?_); focus decide) | (with_reducible refine And.intro (orderOk_i ?ho) ?_; (case ho => kernel_rfl)) | ((with_reducible refine qif_t ?_ ?_); focus (simp [lo]; done)) | ((with_reducible refine qif_f ?_ ?_); focus (simp [lo]; done)) | (with_reducible first | refine qif_i (fun _ => ?_) (fun _ => ?_) | refine frcVs_i ?_ | refine frcRs_i ?_) | (refine qCall.sent rfl ?_) | ((with_reducible refine qCall.pure (spanAdd_l _ _) ?_ ?_ ?_ ?_); rotate_left 4; exact trivial; exact plT; exact plT) | ((with_reducible refine qCall.pure (tnew_l _) ?_ ?_ ?_ ?_); rotate_left 4; exact trivial; exact plT; exact plT)) <;> (conv => whnf))))
          (refine qConv.of hB [(1, 1)] [(0, 0), (2, 2), (3, 3), (4, 4), (5, 5), (8, 8), (9, 9)] [] (by rfl) ?_; focus ((conv => whnf); (repeat (refine And.intro ?_ ?_; rotate_left; (conv => whnf))); exact trivial; all_goals (try exact andT)))
          all_goals (try exact dt_AhTcpD_ROW)
      · cases hse : (wdiff y.c.nx y.c.una == ((y.c.out.map bR).length : Int))
        · have hx : x.pump = y.pump3 := by
            rw [hx0]; unfold Stp.pump2; rw [if_neg]
            rintro ⟨_, h⟩
            rw [beq_eq_false_iff_ne, lo] at hse
            exact hse h
          rcases (Bool.eq_false_or_eq_true y.c.tm.on).symm with ho | ho
          · cases hp : decide (0 < wdiff y.c.nx y.c.una)
            · cases hq : decide (wdiff y.c.nx y.c.una < ((y.c.out.map bR).length : Int))
              · have hz : x.pump = y := by
                  rw [hx]; unfold Stp.pump3; rw [if_neg]
                  rw [decide_eq_false_iff_not] at hp hq
                  rw [lo] at hq
                  rintro ⟨_, h | h⟩
                  · exact hp h
                  · exact hq h
                rw [hz]
                ((conv => whnf); (repeat' ((first | (with_reducible first | refine qif_n ?_ | refine qif_t ‹_› ?_ | refine qif_f ‹_› ?_) | ((with_reducible refine qif_t ?_ ?_); focus decide) | ((with_reducible refine qif_f ?_ ?_); focus decide) | (with_reducible refine And.intro (orderOk_i ?ho) ?_; (case ho => kernel_rfl)) | ((with_reducible refine qif_t ?_ ?_); focus (simp [lo]; done)) | ((with_reducible refine qif_f ?_ ?_); focus (simp [lo]; done)) | (with_reducible first | refine qif_i (fun _ => ?_) (fun _ => ?_) | refine frcVs_i ?_ | refine frcRs_i ?_) | (refine qCall.sent rfl ?_) | ((with_reducible refine qCall.pure (spanAdd_l _ _) ?_ ?_ ?_ ?_); rotate_left 4; exact trivial; exact plT; exact plT) | ((with_reducible refine qCall.pure (tnew_l _) ?_ ?_ ?_ ?_); rotate_left 4; exact trivial; exact plT; exact plT)) <;> (conv => whnf))))
                (refine qConv.of hB [(1, 1)] [(0, 0), (2, 2), (3, 3), (4, 4), (5, 5), (8, 8), (9, 9)] [] (by rfl) ?_; focus ((conv => whnf); (repeat (refine And.intro ?_ ?_; rotate_left; (conv => whnf))); exact trivial; all_goals (try exact andT)))
                all_goals (try exact dt_AhTcpD_ROW)
              · have hz : x.pump = { y with c := { (y).c with tm := tmNew 3 } } := by
                  rw [hx]; unfold Stp.pump3; rw [if_pos]
                  rw [decide_eq_true_eq, lo] at hq
                  exact ⟨ho, .inr hq⟩
                rw [hz]
                ((conv => whnf); (repeat' ((first | (with_reducible first | refine qif_n ?_ | refine qif_t ‹_› ?_ | refine qif_f ‹_› ?_) | ((with_reducible refine qif_t ?_ ?_); focus decide) | ((with_reducible refine qif_f ?_ ?_); focus decide) | (with_reducible refine And.intro (orderOk_i ?ho) ?_; (case ho => kernel_rfl)) | ((with_reducible refine qif_t ?_ ?_); focus (simp [lo]; done)) | ((with_reducible refine qif_f ?_ ?_); focus (simp [lo]; done)) | (with_reducible first | refine qif_i (fun _ => ?_) (fun _ => ?_) | refine frcVs_i ?_ | refine frcRs_i ?_) | (refine qCall.sent rfl ?_) | ((with_reducible refine qCall.pure (spanAdd_l _ _) ?_ ?_ ?_ ?_); rotate_left 4; exact trivial; exact plT; exact plT) | ((with_reducible refine qCall.pure (tnew_l _) ?_ ?_ ?_ ?_); rotate_left 4; exact trivial; exact plT; exact plT)) <;> (conv => whnf))))
                (refine qConv.of hB [(1, 1)] [(0, 0), (2, 2), (3, 3), (4, 4), (5, 5), (8, 8), (9, 9)] [] (by rfl) ?_; focus ((conv => whnf); (repeat (refine And.intro ?_ ?_; rotate_left; (conv => whnf))); exact trivial; all_goals (try exact andT)))
                all_goals (try exact dt_AhTcpD_ROW)
            · have hz : x.pump = { y with c := { (y).c with tm := tmNew 3 } } := by
                rw [hx]; unfold Stp.pump3; rw [if_pos]
                rw [decide_eq_true_eq] at hp
                exact ⟨ho, .inl hp⟩
              rw [hz]
              ((conv => whnf); (repeat' ((first | (with_reducible first | refine qif_n ?_ | refine qif_t ‹_› ?_ | refine qif_f ‹_› ?_) | ((with_reducible refine qif_t ?_ ?_); focus decide) | ((with_reducible refine qif_f ?_ ?_); focus decide) | (with_reducible refine And.intro (orderOk_i ?ho) ?_; (case ho => kernel_rfl)) | ((with_reducible refine qif_t ?_ ?_); focus (simp [lo]; done)) | ((with_reducible refine qif_f ?_ ?_); focus (simp [lo]; done)) | (with_reducible first | refine qif_i (fun _ => ?_) (fun _ => ?_) | refine frcVs_i ?_ | refine frcRs_i ?_) | (refine qCall.sent rfl ?_) | ((with_reducible refine qCall.pure (spanAdd_l _ _) ?_ ?_ ?_ ?_); rotate_left 4; exact trivial; exact plT; exact plT) | ((with_reducible refine qCall.pure (tnew_l _) ?_ ?_ ?_ ?_); rotate_left 4; exact trivial; exact plT; exact plT)) <;> (conv => whnf))))
              (refine qConv.of hB [(1, 1)] [(0, 0), (2, 2), (3, 3), (4, 4), (5, 5), (8, 8), (9, 9)] [] (by rfl) ?_; focus ((conv => whnf); (repeat (refine And.intro ?_ ?_; rotate_left; (conv => whnf))); exact trivial; all_goals (try exact andT)))
              all_goals (try exact dt_AhTcpD_ROW)
          · have hz : x.pump = y := by
              rw [hx]; unfold Stp.pump3; rw [if_neg]
              rintro ⟨h, _⟩
              exact absurd (ho.symm.trans h) (by simp)
            rw [hz]
            ((conv => whnf); (repeat' ((first | (with_reducible first | refine qif_n ?_ | refine qif_t ‹_› ?_ | refine qif_f ‹_› ?_) | ((with_reducible refine qif_t ?_ ?_); focus decide) | ((with_reducible refine qif_f ?_ ?_); focus decide) | (with_reducible refine And.intro (orderOk_i ?ho) ?_; (case ho => kernel_rfl)) | ((with_reducible refine qif_t ?_ ?_); focus (simp [lo]; done)) | ((with_reducible refine qif_f ?_ ?_); focus (simp [lo]; done)) | (with_reducible first | refine qif_i (fun _ => ?_) (fun _ => ?_) | refine frcVs_i ?_ | refine frcRs_i ?_) | (refine qCall.sent rfl ?_) | ((with_reducible refine qCall.pure (spanAdd_l _ _) ?_ ?_ ?_ ?_); rotate_left 4; exact trivial; exact plT; exact plT) | ((with_reducible refine qCall.pure (tnew_l _) ?_ ?_ ?_ ?_); rotate_left 4; exact trivial; exact plT; exact plT)) <;> (conv => whnf))))
            (refine qConv.of hB [(1, 1)] [(0, 0), (2, 2), (3, 3), (4, 4), (5, 5), (8, 8), (9, 9)] [] (by rfl) ?_; focus ((conv => whnf); (repeat (refine And.intro ?_ ?_; rotate_left; (conv => whnf))); exact trivial; all_goals (try exact andT)))
            all_goals (try exact dt_AhTcpD_ROW)
        · have hse2 : y.c.closing = true ∧ y.c.sent = y.c.len := ⟨hcl, by rw [beq_iff_eq, lo] at hse; exact hse⟩
          have cS := send_l true y y.c.nx 17 [] (by simp) (by have := hse2.2; unfold Cn.len at *; omega)
          cases hst : (y.c.st == 2)
          · have hx : x.pump = (({ c := { y.c with nx := wadd y.c.nx 1, st := 7 }, out := y.out ++ [⟨y.c.port, y.c.pp, y.c.nx, y.c.inx, 17, 2048, []⟩], told := y.told } : Stp)).pump3 := by
              rw [hx0]; unfold Stp.pump2; rw [if_pos hse2, if_neg (by simpa using hst)]
            rcases (Bool.eq_false_or_eq_true y.c.tm.on).symm with ho | ho
            · cases hp : decide (0 < wdiff (wadd y.c.nx 1) y.c.una)
              · cases hq : decide (wdiff (wadd y.c.nx 1) y.c.una < ((y.c.out.map bR).length : Int))
                · have hz : x.pump = ({ c := { y.c with nx := wadd y.c.nx 1, st := 7 }, out := y.out ++ [⟨y.c.port, y.c.pp, y.c.nx, y.c.inx, 17, 2048, []⟩], told := y.told } : Stp) := by
                    rw [hx]; unfold Stp.pump3; rw [if_neg]
                    rw [decide_eq_false_iff_not] at hp hq
                    rw [lo] at hq
                    rintro ⟨_, h | h⟩
                    · exact hp h
                    · exact hq h
                  rw [hz]
                  ((conv => whnf); (repeat' ((first | (with_reducible first | refine qif_n ?_ | refine qif_t ‹_› ?_ | refine qif_f ‹_› ?_) | ((with_reducible refine qif_t ?_ ?_); focus decide) | ((with_reducible refine qif_f ?_ ?_); focus decide) | (with_reducible refine And.intro (orderOk_i ?ho) ?_; (case ho => kernel_rfl)) | ((with_reducible refine qif_t ?_ ?_); focus (simp [lo]; done)) | ((with_reducible refine qif_f ?_ ?_); focus (simp [lo]; done)) | (with_reducible first | refine qif_i (fun _ => ?_) (fun _ => ?_) | refine frcVs_i ?_ | refine frcRs_i ?_) | (refine qCall.sent rfl ?_) | ((with_reducible refine qCall.pure (spanAdd_l _ _) ?_ ?_ ?_ ?_); rotate_left 4; exact trivial; exact plT; exact plT) | ((with_reducible refine qCall.pure (tnew_l _) ?_ ?_ ?_ ?_); rotate_left 4; exact trivial; exact plT; exact plT)) <;> (conv => whnf))))
                  ((with_reducible refine qCall.of (cS) [(1, 1)] [(0, 0), (2, 2), (3, 3), (4, 4), (5, 5), (6, 8), (7, 9)] [] [(8, 10), (9, 11)] [(1, spO (spY true 10 11 y (y.out ++ [⟨y.c.port, y.c.pp, y.c.nx, y.c.inx, 17, 2048, []⟩]))), (8, .dead), (9, .dead), (10, .uniq), (11, .uniq)] (.tup []) ?hk ?_); (case hk => rfl); (conv => whnf); (repeat (refine And.intro ?_ ?_; exact sideT; (conv => whnf))); (fail_if_success (with_reducible first | refine And.intro (eqv_i ?_) ?_ | refine And.intro (ren_i ?_) ?_)))
                  ((conv => whnf); (repeat' ((first | (with_reducible first | refine qif_n ?_ | refine qif_t ‹_› ?_ | refine qif_f ‹_› ?_) | ((with_reducible refine qif_t ?_ ?_); focus decide) | ((with_reducible refine qif_f ?_ ?_); focus decide) | (with_reducible refine And.intro (orderOk_i ?ho) ?_; (case ho => kernel_rfl)) | ((with_reducible refine qif_t ?_ ?_); focus (simp [lo]; done)) | ((with_reducible refine qif_f ?_ ?_); focus (simp [lo]; done)) | (with_reducible first | refine qif_i (fun _ => ?_) (fun _ => ?_) | refine frcVs_i ?_ | refine frcRs_i ?_) | (refine qCall.sent rfl ?_) | ((with_reducible refine qCall.pure (spanAdd_l _ _) ?_ ?_ ?_ ?_); rotate_left 4; exact trivial; exact plT; exact plT) | ((with_reducible refine qCall.pure (tnew_l _) ?_ ?_ ?_ ?_); rotate_left 4; exact trivial; exact plT; exact plT)) <;> (conv => whnf))))
                  (refine qConv.of hB [(1, 1)] [(0, 0), (2, 2), (3, 3), (4, 4), (5, 5), (10, 8), (11, 9)] [] (by rfl) ?_; focus ((conv => whnf); (repeat (refine And.intro ?_ ?_; rotate_left; (conv => whnf))); exact trivial; all_goals (try exact andT)))
                  all_goals (try exact dt_AhTcpD_ROW)
                · have hz : x.pump = { ({ c := { y.c with nx := wadd y.c.nx 1, st := 7 }, out := y.out ++ [⟨y.c.port, y.c.pp, y.c.nx, y.c.inx, 17, 2048, []⟩], told := y.told } : Stp) with c := { (({ c := { y.c with nx := wadd y.c.nx 1, st := 7 }, out := y.out ++ [⟨y.c.port, y.c.pp, y.c.nx, y.c.inx, 17, 2048, []⟩], told := y.told } : Stp)).c with tm := tmNew 3 } } := by
                    rw [hx]; unfold Stp.pump3; rw [if_pos]
                    rw [decide_eq_true_eq, lo] at hq
                    exact ⟨ho, .inr hq⟩
                  rw [hz]
                  ((conv => whnf); (repeat' ((first | (with_reducible first | refine qif_n ?_ | refine qif_t ‹_› ?_ | refine qif_f ‹_› ?_) | ((with_reducible refine qif_t ?_ ?_); focus decide) | ((with_reducible refine qif_f ?_ ?_); focus decide) | (with_reducible refine And.intro (orderOk_i ?ho) ?_; (case ho => kernel_rfl)) | ((with_reducible refine qif_t ?_ ?_); focus (simp [lo]; done)) | ((with_reducible refine qif_f ?_ ?_); focus (simp [lo]; done)) | (with_reducible first | refine qif_i (fun _ => ?_) (fun _ => ?_) | refine frcVs_i ?_ | refine frcRs_i ?_) | (refine qCall.sent rfl ?_) | ((with_reducible refine qCall.pure (spanAdd_l _ _) ?_ ?_ ?_ ?_); rotate_left 4; exact trivial; exact plT; exact plT) | ((with_reducible refine qCall.pure (tnew_l _) ?_ ?_ ?_ ?_); rotate_left 4; exact trivial; exact plT; exact plT)) <;> (conv => whnf))))
                  ((with_reducible refine qCall.of (cS) [(1, 1)] [(0, 0), (2, 2), (3, 3), (4, 4), (5, 5), (6, 8), (7, 9)] [] [(8, 10), (9, 11)] [(1, spO (spY true 10 11 y (y.out ++ [⟨y.c.port, y.c.pp, y.c.nx, y.c.inx, 17, 2048, []⟩]))), (8, .dead), (9, .dead), (10, .uniq), (11, .uniq)] (.tup []) ?hk ?_); (case hk => rfl); (conv => whnf); (repeat (refine And.intro ?_ ?_; exact sideT; (conv => whnf))); (fail_if_success (with_reducible first | refine And.intro (eqv_i ?_) ?_ | refine And.intro (ren_i ?_) ?_)))
                  ((conv => whnf); (repeat' ((first | (with_reducible first | refine qif_n ?_ | refine qif_t ‹_› ?_ | refine qif_f ‹_› ?_) | ((with_reducible refine qif_t ?_ ?_); focus decide) | ((with_reducible refine qif_f ?_ ?_); focus decide) | (with_reducible refine And.intro (orderOk_i ?ho) ?_; (case ho => kernel_rfl)) | ((with_reducible refine qif_t ?_ ?_); focus (simp [lo]; done)) | ((with_reducible refine qif_f ?_ ?_); focus (simp [lo]; done)) | (with_reducible first | refine qif_i (fun _ => ?_) (fun _ => ?_) | refine frcVs_i ?_ | refine frcRs_i ?_) | (refine qCall.sent rfl ?_) | ((with_reducible refine qCall.pure (spanAdd_l _ _) ?_ ?_ ?_ ?_); rotate_left 4; exact trivial; exact plT; exact plT) | ((with_reducible refine qCall.pure (tnew_l _) ?_ ?_ ?_ ?_); rotate_left 4; exact trivial; exact plT; exact plT)) <;> (conv => whnf))))
                  (refine qConv.of hB [(1, 1)] [(0, 0), (2, 2), (3, 3), (4, 4), (5, 5), (10, 8), (11, 9)] [] (by rfl) ?_; focus ((conv => whnf); (repeat (refine And.intro ?_ ?_; rotate_left; (conv => whnf))); exact trivial; all_goals (try exact andT)))
                  all_goals (try exact dt_AhTcpD_ROW)
              · have hz : x.pump = { ({ c := { y.c with nx := wadd y.c.nx 1, st := 7 }, out := y.out ++ [⟨y.c.port, y.c.pp, y.c.nx, y.c.inx, 17, 2048, []⟩], told := y.told } : Stp) with c := { (({ c := { y.c with nx := wadd y.c.nx 1, st := 7 }, out := y.out ++ [⟨y.c.port, y.c.pp, y.c.nx, y.c.inx, 17, 2048, []⟩], told := y.told } : Stp)).c with tm := tmNew 3 } } := by
                  rw [hx]; unfold Stp.pump3; rw [if_pos]
                  rw [decide_eq_true_eq] at hp
                  exact ⟨ho, .inl hp⟩
                rw [hz]
                ((conv => whnf); (repeat' ((first | (with_reducible first | refine qif_n ?_ | refine qif_t ‹_› ?_ | refine qif_f ‹_› ?_) | ((with_reducible refine qif_t ?_ ?_); focus decide) | ((with_reducible refine qif_f ?_ ?_); focus decide) | (with_reducible refine And.intro (orderOk_i ?ho) ?_; (case ho => kernel_rfl)) | ((with_reducible refine qif_t ?_ ?_); focus (simp [lo]; done)) | ((with_reducible refine qif_f ?_ ?_); focus (simp [lo]; done)) | (with_reducible first | refine qif_i (fun _ => ?_) (fun _ => ?_) | refine frcVs_i ?_ | refine frcRs_i ?_) | (refine qCall.sent rfl ?_) | ((with_reducible refine qCall.pure (spanAdd_l _ _) ?_ ?_ ?_ ?_); rotate_left 4; exact trivial; exact plT; exact plT) | ((with_reducible refine qCall.pure (tnew_l _) ?_ ?_ ?_ ?_); rotate_left 4; exact trivial; exact plT; exact plT)) <;> (conv => whnf))))
                ((with_reducible refine qCall.of (cS) [(1, 1)] [(0, 0), (2, 2), (3, 3), (4, 4), (5, 5), (6, 8), (7, 9)] [] [(8, 10), (9, 11)] [(1, spO (spY true 10 11 y (y.out ++ [⟨y.c.port, y.c.pp, y.c.nx, y.c.inx, 17, 2048, []⟩]))), (8, .dead), (9, .dead), (10, .uniq), (11, .uniq)] (.tup []) ?hk ?_); (case hk => rfl); (conv => whnf); (repeat (refine And.intro ?_ ?_; exact sideT; (conv => whnf))); (fail_if_success (with_reducible first | refine And.intro (eqv_i ?_) ?_ | refine And.intro (ren_i ?_) ?_)))
                ((conv => whnf); (repeat' ((first | (with_reducible first | refine qif_n ?_ | refine qif_t ‹_› ?_ | refine qif_f ‹_› ?_) | ((with_reducible refine qif_t ?_ ?_); focus decide) | ((with_reducible refine qif_f ?_ ?_); focus decide) | (with_reducible refine And.intro (orderOk_i ?ho) ?_; (case ho => kernel_rfl)) | ((with_reducible refine qif_t ?_ ?_); focus (simp [lo]; done)) | ((with_reducible refine qif_f ?_ ?_); focus (simp [lo]; done)) | (with_reducible first | refine qif_i (fun _ => ?_) (fun _ => ?_) | refine frcVs_i ?_ | refine frcRs_i ?_) | (refine qCall.sent rfl ?_) | ((with_reducible refine qCall.pure (spanAdd_l _ _) ?_ ?_ ?_ ?_); rotate_left 4; exact trivial; exact plT; exact plT) | ((with_reducible refine qCall.pure (tnew_l _) ?_ ?_ ?_ ?_); rotate_left 4; exact trivial; exact plT; exact plT)) <;> (conv => whnf))))
                (refine qConv.of hB [(1, 1)] [(0, 0), (2, 2), (3, 3), (4, 4), (5, 5), (10, 8), (11, 9)] [] (by rfl) ?_; focus ((conv => whnf); (repeat (refine And.intro ?_ ?_; rotate_left; (conv => whnf))); exact trivial; all_goals (try exact andT)))
                all_goals (try exact dt_AhTcpD_ROW)
            · have hz : x.pump = ({ c := { y.c with nx := wadd y.c.nx 1, st := 7 }, out := y.out ++ [⟨y.c.port, y.c.pp, y.c.nx, y.c.inx, 17, 2048, []⟩], told := y.told } : Stp) := by
                rw [hx]; unfold Stp.pump3; rw [if_neg]
                rintro ⟨h, _⟩
                exact absurd (ho.symm.trans h) (by simp)
              rw [hz]
              ((conv => whnf); (repeat' ((first | (with_reducible first | refine qif_n ?_ | refine qif_t ‹_› ?_ | refine qif_f ‹_› ?_) | ((with_reducible refine qif_t ?_ ?_); focus decide) | ((with_reducible refine qif_f ?_ ?_); focus decide) | (with_reducible refine And.intro (orderOk_i ?ho) ?_; (case ho => kernel_rfl)) | ((with_reducible refine qif_t ?_ ?_); focus (simp [lo]; done)) | ((with_reducible refine qif_f ?_ ?_); focus (simp [lo]; done)) | (with_reducible first | refine qif_i (fun _ => ?_) (fun _ => ?_) | refine frcVs_i ?_ | refine frcRs_i ?_) | (refine qCall.sent rfl ?_) | ((with_reducible refine qCall.pure (spanAdd_l _ _) ?_ ?_ ?_ ?_); rotate_left 4; exact trivial; exact plT; exact plT) | ((with_reducible refine qCall.pure (tnew_l _) ?_ ?_ ?_ ?_); rotate_left 4; exact trivial; exact plT; exact plT)) <;> (conv => whnf))))
              ((with_reducible refine qCall.of (cS) [(1, 1)] [(0, 0), (2, 2), (3, 3), (4, 4), (5, 5), (6, 8), (7, 9)] [] [(8, 10), (9, 11)] [(1, spO (spY true 10 11 y (y.out ++ [⟨y.c.port, y.c.pp, y.c.nx, y.c.inx, 17, 2048, []⟩]))), (8, .dead), (9, .dead), (10, .uniq), (11, .uniq)] (.tup []) ?hk ?_); (case hk => rfl); (conv => whnf); (repeat (refine And.intro ?_ ?_; exact sideT; (conv => whnf))); (fail_if_success (with_reducible first | refine And.intro (eqv_i ?_) ?_ | refine And.intro (ren_i ?_) ?_)))
              ((conv => whnf); (repeat' ((first | (with_reducible first | refine qif_n ?_ | refine qif_t ‹_› ?_ | refine qif_f ‹_› ?_) | ((with_reducible refine qif_t ?_ ?_); focus decide) | ((with_reducible refine qif_f ?_ ?_); focus decide) | (with_reducible refine And.intro (orderOk_i ?ho) ?_; (case ho => kernel_rfl)) | ((with_reducible refine qif_t ?_ ?_); focus (simp [lo]; done)) | ((with_reducible refine qif_f ?_ ?_); focus (simp [lo]; done)) | (with_reducible first | refine qif_i (fun _ => ?_) (fun _ => ?_) | refine frcVs_i ?_ | refine frcRs_i ?_) | (refine qCall.sent rfl ?_) | ((with_reducible refine qCall.pure (spanAdd_l _ _) ?_ ?_ ?_ ?_); rotate_left 4; exact trivial; exact plT; exact plT) | ((with_reducible refine qCall.pure (tnew_l _) ?_ ?_ ?_ ?_); rotate_left 4; exact trivial; exact plT; exact plT)) <;> (conv => whnf))))
              (refine qConv.of hB [(1, 1)] [(0, 0), (2, 2), (3, 3), (4, 4), (5, 5), (10, 8), (11, 9)] [] (by rfl) ?_; focus ((conv => whnf); (repeat (refine And.intro ?_ ?_; rotate_left; (conv => whnf))); exact trivial; all_goals (try exact andT)))
              all_goals (try exact dt_AhTcpD_ROW)
          · have hx : x.pump = (({ c := { y.c with nx := wadd y.c.nx 1, st := 3 }, out := y.out ++ [⟨y.c.port, y.c.pp, y.c.nx, y.c.inx, 17, 2048, []⟩], told := y.told } : Stp)).pump3 := by
              rw [hx0]; unfold Stp.pump2; rw [if_pos hse2, if_pos (by simpa using hst)]
            rcases (Bool.eq_false_or_eq_true y.c.tm.on).symm with ho | ho
            · cases hp : decide (0 < wdiff (wadd y.c.nx 1) y.c.una)
              · cases hq : decide (wdiff (wadd y.c.nx 1) y.c.una < ((y.c.out.map bR).length : Int))
                · have hz : x.pump = ({ c := { y.c with nx := wadd y.c.nx 1, st := 3 }, out := y.out ++ [⟨y.c.port, y.c.pp, y.c.nx, y.c.inx, 17, 2048, []⟩], told := y.told } : Stp) := by
                    rw [hx]; unfold Stp.pump3; rw [if_neg]
                    rw [decide_eq_false_iff_not] at hp hq
                    rw [lo] at hq
                    rintro ⟨_, h | h⟩
                    · exact hp h
                    · exact hq h
                  rw [hz]
                  ((conv => whnf); (repeat' ((first | (with_reducible first | refine qif_n ?_ | refine qif_t ‹_› ?_ | refine qif_f ‹_› ?_) | ((with_reducible refine qif_t ?_ ?_); focus decide) | ((with_reducible refine qif_f ?_ ?_); focus decide) | (with_reducible refine And.intro (orderOk_i ?ho) ?_; (case ho => kernel_rfl)) | ((with_reducible refine qif_t ?_ ?_); focus (simp [lo]; done)) | ((with_reducible refine qif_f ?_ ?_); focus (simp [lo]; done)) | (with_reducible first | refine qif_i (fun _ => ?_) (fun _ => ?_) | refine frcVs_i ?_ | refine frcRs_i ?_) | (refine qCall.sent rfl ?_) | ((with_reducible refine qCall.pure (spanAdd_l _ _) ?_ ?_ ?_ ?_); rotate_left 4; exact trivial; exact plT; exact plT) | ((with_reducible refine qCall.pure (tnew_l _) ?_ ?_ ?_ ?_); rotate_left 4; exact trivial; exact plT; exact plT)) <;> (conv => whnf))))
                  ((with_reducible refine qCall.of (cS) [(1, 1)] [(0, 0), (2, 2), (3, 3), (4, 4), (5, 5), (6, 8), (7, 9)] [] [(8, 10), (9, 11)] [(1, spO (spY true 10 11 y (y.out ++ [⟨y.c.port, y.c.pp, y.c.nx, y.c.inx, 17, 2048, []⟩]))), (8, .dead), (9, .dead), (10, .uniq), (11, .uniq)] (.tup []) ?hk ?_); (case hk => rfl); (conv => whnf); (repeat (refine And.intro ?_ ?_; exact sideT; (conv => whnf))); (fail_if_success (with_reducible first | refine And.intro (eqv_i ?_) ?_ | refine And.intro (ren_i ?_) ?_)))
                  ((conv => whnf); (repeat' ((first | (with_reducible first | refine qif_n ?_ | refine qif_t ‹_› ?_ | refine qif_f ‹_› ?_) | ((with_reducible refine qif_t ?_ ?_); focus decide) | ((with_reducible refine qif_f ?_ ?_); focus decide) | (with_reducible refine And.intro (orderOk_i ?ho) ?_; (case ho => kernel_rfl)) | ((with_reducible refine qif_t ?_ ?_); focus (simp [lo]; done)) | ((with_reducible refine qif_f ?_ ?_); focus (simp [lo]; done)) | (with_reducible first | refine qif_i (fun _ => ?_) (fun _ => ?_) | refine frcVs_i ?_ | refine frcRs_i ?_) | (refine qCall.sent rfl ?_) | ((with_reducible refine qCall.pure (spanAdd_l _ _) ?_ ?_ ?_ ?_); rotate_left 4; exact trivial; exact plT; exact plT) | ((with_reducible refine qCall.pure (tnew_l _) ?_ ?_ ?_ ?_); rotate_left 4; exact trivial; exact plT; exact plT)) <;> (conv => whnf))))
                  (refine qConv.of hB [(1, 1)] [(0, 0), (2, 2), (3, 3), (4, 4), (5, 5), (10, 8), (11, 9)] [] (by rfl) ?_; focus ((conv => whnf); (repeat (refine And.intro ?_ ?_; rotate_left; (conv => whnf))); exact trivial; all_goals (try exact andT)))
                  all_goals (try exact dt_AhTcpD_ROW)
                · have hz : x.pump = { ({ c := { y.c with nx := wadd y.c.nx 1, st := 3 }, out := y.out ++ [⟨y.c.port, y.c.pp, y.c.nx, y.c.inx, 17, 2048, []⟩], told := y.told } : Stp) with c := { (({ c := { y.c with nx := wadd y.c.nx 1, st := 3 }, out := y.out ++ [⟨y.c.port, y.c.pp, y.c.nx, y.c.inx, 17, 2048, []⟩], told := y.told } : Stp)).c with tm := tmNew 3 } } := by
                    rw [hx]; unfold Stp.pump3; rw [if_pos]
                    rw [decide_eq_true_eq, lo] at hq
                    exact ⟨ho, .inr hq⟩
                  rw [hz]
                  ((conv => whnf); (repeat' ((first | (with_reducible first | refine qif_n ?_ | refine qif_t ‹_› ?_ | refine qif_f ‹_› ?_) | ((with_reducible refine qif_t ?_ ?_); focus decide) | ((with_reducible refine qif_f ?_ ?_); focus decide) | (with_reducible refine And.intro (orderOk_i ?ho) ?_; (case ho => kernel_rfl)) | ((with_reducible refine qif_t ?_ ?_); focus (simp [lo]; done)) | ((with_reducible refine qif_f ?_ ?_); focus (simp [lo]; done)) | (with_reducible first | refine qif_i (fun _ => ?_) (fun _ => ?_) | refine frcVs_i ?_ | refine frcRs_i ?_) | (refine qCall.sent rfl ?_) | ((with_reducible refine qCall.pure (spanAdd_l _ _) ?_ ?_ ?_ ?_); rotate_left 4; exact trivial; exact plT; exact plT) | ((with_reducible refine qCall.pure (tnew_l _) ?_ ?_ ?_ ?_); rotate_left 4; exact trivial; exact plT; exact plT)) <;> (conv => whnf))))
                  ((with_reducible refine qCall.of (cS) [(1, 1)] [(0, 0), (2, 2), (3, 3), (4, 4), (5, 5), (6, 8), (7, 9)] [] [(8, 10), (9, 11)] [(1, spO (spY true 10 11 y (y.out ++ [⟨y.c.port, y.c.pp, y.c.nx, y.c.inx, 17, 2048, []⟩]))), (8, .dead), (9, .dead), (10, .uniq), (11, .uniq)] (.tup []) ?hk ?_); (case hk => rfl); (conv => whnf); (repeat (refine And.intro ?_ ?_; exact sideT; (conv => whnf))); (fail_if_success (with_reducible first | refine And.intro (eqv_i ?_) ?_ | refine And.intro (ren_i ?_) ?_)))
                  ((conv => whnf); (repeat' ((first | (with_reducible first | refine qif_n ?_ | refine qif_t ‹_› ?_ | refine qif_f ‹_› ?_) | ((with_reducible refine qif_t ?_ ?_); focus decide) | ((with_reducible refine qif_f ?_ ?_); focus decide) | (with_reducible refine And.intro (orderOk_i ?ho) ?_; (case ho => kernel_rfl)) | ((with_reducible refine qif_t ?_ ?_); focus (simp [lo]; done)) | ((with_reducible refine qif_f ?_ ?_); focus (simp [lo]; done)) | (with_reducible first | refine qif_i (fun _ => ?_) (fun _ => ?_) | refine frcVs_i ?_ | refine frcRs_i ?_) | (refine qCall.sent rfl ?_) | ((with_reducible refine qCall.pure (spanAdd_l _ _) ?_ ?_ ?_ ?_); rotate_left 4; exact trivial; exact plT; exact plT) | ((with_reducible refine qCall.pure (tnew_l _) ?_ ?_ ?_ ?_); rotate_left 4; exact trivial; exact plT; exact plT)) <;> (conv => whnf))))
                  (refine qConv.of hB [(1, 1)] [(0, 0), (2, 2), (3, 3), (4, 4), (5, 5), (10, 8), (11, 9)] [] (by rfl) ?_; focus ((conv => whnf); (repeat (refine And.intro ?_ ?_; rotate_left; (conv => whnf))); exact trivial; all_goals (try exact andT)))
                  all_goals (try exact dt_AhTcpD_ROW)
              · have hz : x.pump = { ({ c := { y.c with nx := wadd y.c.nx 1, st := 3 }, out := y.out ++ [⟨y.c.port, y.c.pp, y.c.nx, y.c.inx, 17, 2048, []⟩], told := y.told } : Stp) with c := { (({ c := { y.c with nx := wadd y.c.nx 1, st := 3 }, out := y.out ++ [⟨y.c.port, y.c.pp, y.c.nx, y.c.inx, 17, 2048, []⟩], told := y.told } : Stp)).c with tm := tmNew 3 } } := by
                  rw [hx]; unfold Stp.pump3; rw [if_pos]
                  rw [decide_eq_true_eq] at hp
                  exact ⟨ho, .inl hp⟩
                rw [hz]
                ((conv => whnf); (repeat' ((first | (with_reducible first | refine qif_n ?_ | refine qif_t ‹_› ?_ | refine qif_f ‹_› ?_) | ((with_reducible refine qif_t ?_ ?_); focus decide) | ((with_reducible refine qif_f ?_ ?_); focus decide) | (with_reducible refine And.intro (orderOk_i ?ho) ?_; (case ho => kernel_rfl)) | ((with_reducible refine qif_t ?_ ?_); focus (simp [lo]; done)) | ((with_reducible refine qif_f ?_ ?_); focus (simp [lo]; done)) | (with_reducible first | refine qif_i (fun _ => ?_) (fun _ => ?_) | refine frcVs_i ?_ | refine frcRs_i ?_) | (refine qCall.sent rfl ?_) | ((with_reducible refine qCall.pure (spanAdd_l _ _) ?_ ?_ ?_ ?_); rotate_left 4; exact trivial; exact plT; exact plT) | ((with_reducible refine qCall.pure (tnew_l _) ?_ ?_ ?_ ?_); rotate_left 4; exact trivial; exact plT; exact plT)) <;> (conv => whnf))))
                ((with_reducible refine qCall.of (cS) [(1, 1)] [(0, 0), (2, 2), (3, 3), (4, 4), (5, 5), (6, 8), (7, 9)] [] [(8, 10), (9, 11)] [(1, spO (spY true 10 11 y (y.out ++ [⟨y.c.port, y.c.pp, y.c.nx, y.c.inx, 17, 2048, []⟩]))), (8, .dead), (9, .dead), (10, .uniq), (11, .uniq)] (.tup []) ?hk ?_); (case hk => rfl); (conv => whnf); (repeat (refine And.intro ?_ ?_; exact sideT; (conv => whnf))); (fail_if_success (with_reducible first | refine And.intro (eqv_i ?_) ?_ | refine And.intro (ren_i ?_) ?_)))
                ((conv => whnf); (repeat' ((first | (with_reducible first | refine qif_n ?_ | refine qif_t ‹_› ?_ | refine qif_f ‹_› ?_) | ((with_reducible refine qif_t ?_ ?_); focus decide) | ((with_reducible refine qif_f ?_ ?_); focus decide) | (with_reducible refine And.intro (orderOk_i ?ho) ?_; (case ho => kernel_rfl)) | ((with_reducible refine qif_t ?_ ?_); focus (simp [lo]; done)) | ((with_reducible refine qif_f ?_ ?_); focus (simp [lo]; done)) | (with_reducible first | refine qif_i (fun _ => ?_) (fun _ => ?_) | refine frcVs_i ?_ | refine frcRs_i ?_) | (refine qCall.sent rfl ?_) | ((with_reducible refine qCall.pure (spanAdd_l _ _) ?_ ?_ ?_ ?_); rotate_left 4; exact trivial; exact plT; exact plT) | ((with_reducible refine qCall.pure (tnew_l _) ?_ ?_ ?_ ?_); rotate_left 4; exact trivial; exact plT; exact plT)) <;> (conv => whnf))))
                (refine qConv.of hB [(1, 1)] [(0, 0), (2, 2), (3, 3), (4, 4), (5, 5), (10, 8), (11, 9)] [] (by rfl) ?_; focus ((conv => whnf); (repeat (refine And.intro ?_ ?_; rotate_left; (conv => whnf))); exact trivial; all_goals (try exact andT)))
                all_goals (try exact dt_AhTcpD_ROW)
            · have hz : x.pump = ({ c := { y.c with nx := wadd y.c.nx 1, st := 3 }, out := y.out ++ [⟨y.c.port, y.c.pp, y.c.nx, y.c.inx, 17, 2048, []⟩], told := y.told } : Stp) := by
                rw [hx]; unfold Stp.pump3; rw [if_neg]
                rintro ⟨h, _⟩
                exact absurd (ho.symm.trans h) (by simp)
              rw [hz]
              ((conv => whnf); (repeat' ((first | (with_reducible first | refine qif_n ?_ | refine qif_t ‹_› ?_ | refine qif_f ‹_› ?_) | ((with_reducible refine qif_t ?_ ?_); focus decide) | ((with_reducible refine qif_f ?_ ?_); focus decide) | (with_reducible refine And.intro (orderOk_i ?ho) ?_; (case ho => kernel_rfl)) | ((with_reducible refine qif_t ?_ ?_); focus (simp [lo]; done)) | ((with_reducible refine qif_f ?_ ?_); focus (simp [lo]; done)) | (with_reducible first | refine qif_i (fun _ => ?_) (fun _ => ?_) | refine frcVs_i ?_ | refine frcRs_i ?_) | (refine qCall.sent rfl ?_) | ((with_reducible refine qCall.pure (spanAdd_l _ _) ?_ ?_ ?_ ?_); rotate_left 4; exact trivial; exact plT; exact plT) | ((with_reducible refine qCall.pure (tnew_l _) ?_ ?_ ?_ ?_); rotate_left 4; exact trivial; exact plT; exact plT)) <;> (conv => whnf))))
              ((with_reducible refine qCall.of (cS) [(1, 1)] [(0, 0), (2, 2), (3, 3), (4, 4), (5, 5), (6, 8), (7, 9)] [] [(8, 10), (9, 11)] [(1, spO (spY true 10 11 y (y.out ++ [⟨y.c.port, y.c.pp, y.c.nx, y.c.inx, 17, 2048, []⟩]))), (8, .dead), (9, .dead), (10, .uniq), (11, .uniq)] (.tup []) ?hk ?_); (case hk => rfl); (conv => whnf); (repeat (refine And.intro ?_ ?_; exact sideT; (conv => whnf))); (fail_if_success (with_reducible first | refine And.intro (eqv_i ?_) ?_ | refine And.intro (ren_i ?_) ?_)))
              ((conv => whnf); (repeat' ((first | (with_reducible first | refine qif_n ?_ | refine qif_t ‹_› ?_ | refine qif_f ‹_› ?_) | ((with_reducible refine qif_t ?_ ?_); focus decide) | ((with_reducible refine qif_f ?_ ?_); focus decide) | (with_reducible refine And.intro (orderOk_i ?ho) ?_; (case ho => kernel_rfl)) | ((with_reducible refine qif_t ?_ ?_); focus (simp [lo]; done)) | ((with_reducible refine qif_f ?_ ?_); focus (simp [lo]; done)) | (with_reducible first | refine qif_i (fun _ => ?_) (fun _ => ?_) | refine frcVs_i ?_ | refine frcRs_i ?_) | (refine qCall.sent rfl ?_) | ((with_reducible refine qCall.pure (spanAdd_l _ _) ?_ ?_ ?_ ?_); rotate_left 4; exact trivial; exact plT; exact plT) | ((with_reducible refine qCall.pure (tnew_l _) ?_ ?_ ?_ ?_); rotate_left 4; exact trivial; exact plT; exact plT)) <;> (conv => whnf))))
              (refine qConv.of hB [(1, 1)] [(0, 0), (2, 2), (3, 3), (4, 4), (5, 5), (10, 8), (11, 9)] [] (by rfl) ?_; focus ((conv => whnf); (repeat (refine And.intro ?_ ?_; rotate_left; (conv => whnf))); exact trivial; all_goals (try exact andT)))
              all_goals (try exact dt_AhTcpD_ROW)
end Go.Proofs.YtceohcbokbalhaaGreat

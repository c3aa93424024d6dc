/- Contracts and plain laws, one behind the other: AhTcpS, AhTcpV, AhTcpU, AhTcpX, AhTcpW, AhTcpY, AhTcpNo. Conditions are said at each. -/
import Derived.Test.YtoknaaoioglapaaGreatPkAM
import Derived.Test.YtoknaaoioglapaaGreatPkAI
/- The page's connection sends what it may: on data. Conditions: bounds. -/
namespace Go.Proofs.YtoknaaoioglapaaGreat
open Go.RowKit
set_option linter.unusedVariables false
set_option linter.unusedSimpArgs false
set_option maxRecDepth 100000
set_option maxHeartbeats 4000000
theorem dt_AhTcpS_ROWR {p : Prop} (h : p := by first | ((first | rfl | (refine RowsRen.one ?_; (repeat (refine Cells.cons ?_ ?_; focus (first | exact .val _ | exact Ren.ll rfl _ | exact Ren.gg rfl _ | exact Ren.g2 rfl _ | exact Ren.vnil _ _ | exact Ren.vgnil _ _ | exact Ren.sll rfl rfl _ | exact Ren.sllN rfl rfl rfl rfl | exact Ren.sll1 rfl rfl rfl rfl | exact Ren.pll rfl rfl _ | fail))); exact Cells.nil) | exact segs_ll rfl _ | exact parts_ll rfl _ | exact bytes_cells _); done) | fail) : p := h
theorem pump2_eq (y : Stp) : y.pump2 = bif y.c.closing && (y.c.sent == (y.c.out.length : Int)) then
    { c := { y.c with nx := wadd y.c.nx 1, st := bif y.c.st == 2 then 3 else 7 }, out := y.out ++ [⟨y.c.port, y.c.pp, y.c.nx, y.c.inx, 17, 2048, []⟩], told := y.told } else y := by
  unfold Stp.pump2 Cn.len
  by_cases h : y.c.closing = true ∧ y.c.sent = (y.c.out.length : Int)
  · rw [if_pos h, h.1, h.2, beq_self_eq_true, Bool.and_true, cond_true]
    by_cases h2 : y.c.st = 2
    · rw [if_pos h2, h2]; rfl
    · rw [if_neg h2, show (y.c.st == 2) = false by simpa using h2]; rfl
  · rw [if_neg h]
    cases h1 : y.c.closing with
    | false => rfl
    | true =>
      rw [show (y.c.sent == (y.c.out.length : Int)) = false by rw [beq_eq_false_iff_ne]; exact fun e => h ⟨h1, e⟩]; rfl
theorem pump3_eq (y : Stp) : y.pump3 = bif !y.c.tm.on && (decide (0 < y.c.sent) || decide (y.c.sent < (y.c.out.length : Int))) then { y with c := { y.c with tm := tmNew 3 } } else y := by
  unfold Stp.pump3 Cn.len
  by_cases h : y.c.tm.on = false ∧ (0 < y.c.sent ∨ y.c.sent < (y.c.out.length : Int))
  · rw [if_pos h, h.1]
    rcases h.2 with h2 | h2
    · rw [show decide (0 < y.c.sent) = true by simpa using h2]; rfl
    · rw [show decide (y.c.sent < (y.c.out.length : Int)) = true by simpa using h2, Bool.or_true]; rfl
  · rw [if_neg h]
    cases h1 : y.c.tm.on with
    | true => rfl
    | false =>
      rw [show decide (0 < y.c.sent) = false by rw [decide_eq_false_iff_not]; exact fun e => h ⟨h1, .inl e⟩, show decide (y.c.sent < (y.c.out.length : Int)) = false by rw [decide_eq_false_iff_not]; exact fun e => h ⟨h1, .inr e⟩]; rfl
theorem rpump_l (x : Stp) (hP : PumpOk x.c) (hs : x.out.length ≤ 100000) :
    ACallL Tryz.prog 64 [.ptr 1 0 0] [.perm, rsO (rsN 2 3 4 5 6 7 x), .perm, .perm, .perm, .perm, .uniq, .uniq]
      (.tup []) [.perm, rsO (rsN 2 3 4 5 8 9 x.pump), .perm, .perm, .perm, .perm, .dead, .dead, .uniq, .uniq] := by
  dsimp only [rsN, spL]
  refine ACallL.of_cut mixed 2 Tryz.func64 rfl (fun a w => Tryz.call64 a w) (congrArg Array.toList Tryz.results64) Tryz.ntmps64 (by simp only [spine, chain, List.cons_append, List.nil_append, List.append_assoc, List.take_succ_cons, List.take_zero, List.drop_succ_cons, List.drop_zero]; rfl) (by simp only [spine, chain, List.cons_append, List.nil_append, List.append_assoc, List.take_succ_cons, List.take_zero, List.drop_succ_cons, List.drop_zero]; rfl) rfl (X := Stp) (fun y => slotsOf 129 [(0, .ptr 1 0 0), (2, .ptr 1 0 0)]) (fun y => [.perm, rsO (rsN 2 3 4 5 8 9 y), .perm, .perm, .perm, .perm, .dead, .dead, .uniq, .uniq])
    (fun y => PumpOk y.c ∧ y.out.length ≤ x.out.length + 8192 ∧ x.pump = y.pump2.pump3) (fun B hB => ?_) (fun B hB => ?_)
  · ((conv => whnf); (repeat' ((first | (with_reducible first | refine qif_n ?_ | refine qif_t ‹_› ?_ | refine qif_f ‹_› ?_) | ((with_reducible refine qif_t ?_ ?_); focus decide) | ((with_reducible refine qif_f ?_ ?_); focus decide) | (with_reducible refine And.intro (orderOk_i ?ho) ?_; (case ho => kernel_rfl)) | (with_reducible first | refine qif_i (fun _ => ?_) (fun _ => ?_) | refine frcVs_i ?_ | refine frcRs_i ?_)) <;> (conv => whnf))))
    refine qAW.loopE mixed (X := Stp) (fun y => slotsOf 129 [(0, .ptr 1 0 0), (2, .ptr 1 0 0)]) (fun y => [.perm, rsO (rsN 2 3 4 5 8 9 y), .perm, .perm, .perm, .perm, .dead, .dead, .uniq, .uniq])
      (fun y => PumpOk y.c ∧ y.out.length + (y.c.len - y.c.sent) ≤ x.out.length + 8192 ∧ pumpGo y.c.out.length y = pumpGo x.c.out.length x) (fun y => (y.c.len - y.c.sent).toNat) x ⟨hP, by have := hP.s0; have := hP.len; unfold Cn.len; omega, rfl⟩ ?_ ?_
    · (refine qConv.of hB [(1, 1)] [(0, 0), (2, 2), (3, 3), (4, 4), (5, 5), (6, 8), (7, 9)] [] (by rfl) ?_; focus ((conv => whnf); (repeat (refine And.intro ?_ ?_; rotate_left; (conv => whnf))); exact trivial; all_goals (try exact andT)))
      all_goals (try exact dt_AhTcpS_ROWR)
    · rintro E y ⟨hy, hb, hg⟩ hE
      have h0 := hy.s0
      have h1 := hy.s1
      have h2 := hy.len
      have h3 := hy.win
      have lo : (y.c.out.map bR).length = y.c.out.length := by simp
      unfold Cn.sent at h0 h1
      have w1 := IntWalk.i64_in ((y.c.out.length : Int) - wdiff y.c.nx y.c.una) (by omega)
      have w2 := IntWalk.i64_in (y.c.win - wdiff y.c.nx y.c.una) (by omega)
      dsimp only [rsN, spL]
      by_cases hn : 0 < y.c.pumpN
      · obtain ⟨a, ha⟩ : ∃ a : Nat, wdiff y.c.nx y.c.una = a := ⟨(wdiff y.c.nx y.c.una).toNat, by omega⟩
        obtain ⟨N, hN⟩ : ∃ N : Nat, y.c.pumpN = N := ⟨y.c.pumpN.toNat, by omega⟩
        have hle := pumpN_le hy
        have h1' := pump1_ok hy hn
        have h2' := pump1_sent hy hn
        have hgs := pumpGo_step hy hn
        have hM : min 536 (min (IntKind.i64.wrap (((y.c.out.map bR).length : Int) - wdiff y.c.nx y.c.una)) (IntKind.i64.wrap (y.c.win - wdiff y.c.nx y.c.una))) = N := by rw [lo, w1, w2, ← hN]; unfold Cn.pumpN Cn.len Cn.sent; omega
        have hcond : decide (min 536 (min (IntKind.i64.wrap (((y.c.out.map bR).length : Int) - wdiff y.c.nx y.c.una)) (IntKind.i64.wrap (y.c.win - wdiff y.c.nx y.c.una))) ≤ 0) = false := by rw [hM]; simp; omega
        have hsn : y.c.sent = a := ha
        have w3 : IntKind.i64.wrap (wdiff y.c.nx y.c.una + min 536 (min (IntKind.i64.wrap (((y.c.out.map bR).length : Int) - wdiff y.c.nx y.c.una)) (IntKind.i64.wrap (y.c.win - wdiff y.c.nx y.c.una)))) = a + N := by rw [hM, ha]; exact IntWalk.i64_in _ (by omega)
        obtain ⟨data, hda⟩ : ∃ d, (y.c.out.drop a).take N = d := ⟨_, rfl⟩
        have cS := rseg_l y y.c.nx 24 data (by rw [← hda]; simp; omega) (by unfold Cn.len at hb; omega)
        have hcb : 0 ≤ (some (wdiff y.c.nx y.c.una)).getD 0 ∧ (some (wdiff y.c.nx y.c.una)).getD 0 ≤ (some (IntKind.i64.wrap (wdiff y.c.nx y.c.una + min 536 (min (IntKind.i64.wrap (((y.c.out.map bR).length : Int) - wdiff y.c.nx y.c.una)) (IntKind.i64.wrap (y.c.win - wdiff y.c.nx y.c.una)))))).getD ((y.c.out.map bR).length : Int) ∧ (some (IntKind.i64.wrap (wdiff y.c.nx y.c.una + min 536 (min (IntKind.i64.wrap (((y.c.out.map bR).length : Int) - wdiff y.c.nx y.c.una)) (IntKind.i64.wrap (y.c.win - wdiff y.c.nx y.c.una)))))).getD ((y.c.out.map bR).length : Int) ≤ (none : Option Int).getD ((y.c.out.map bR).length : Int) ∧ (none : Option Int).getD ((y.c.out.map bR).length : Int) ≤ ((y.c.out.map bR).length : Int) ∧ ((none : Option Int) = none ∨ (some (IntKind.i64.wrap (wdiff y.c.nx y.c.una + min 536 (min (IntKind.i64.wrap (((y.c.out.map bR).length : Int) - wdiff y.c.nx y.c.una)) (IntKind.i64.wrap (y.c.win - wdiff y.c.nx y.c.una)))))) ≠ none) := by
          simp only [Option.getD_some, Option.getD_none]
          rw [w3, ha, lo]
          exact ⟨by omega, by omega, by omega, by omega, .inl trivial⟩
        have hsl : ((y.c.out.map bR).drop ((some (wdiff y.c.nx y.c.una)).getD 0).toNat).take ((some (IntKind.i64.wrap (wdiff y.c.nx y.c.una + min 536 (min (IntKind.i64.wrap (((y.c.out.map bR).length : Int) - wdiff y.c.nx y.c.una)) (IntKind.i64.wrap (y.c.win - wdiff y.c.nx y.c.una)))))).getD ((y.c.out.map bR).length : Int) - (some (wdiff y.c.nx y.c.una)).getD 0).toNat = data.map bR := by
          simp only [Option.getD_some]
          rw [w3, ha, ← hda, List.map_take, List.map_drop, show ((a : Int) + N - a).toNat = N by omega, Int.toNat_natCast]
        subst hE
        ((conv => whnf); (repeat' ((first | (with_reducible first | refine qif_n ?_ | refine qif_t ‹_› ?_ | refine qif_f ‹_› ?_) | ((with_reducible refine qif_t ?_ ?_); focus decide) | ((with_reducible refine qif_f ?_ ?_); focus decide) | (with_reducible refine And.intro (orderOk_i ?ho) ?_; (case ho => kernel_rfl)) | ((with_reducible refine qif_t ?_ ?_); focus (simp [lo, w1, w2]; done)) | ((with_reducible refine qif_f ?_ ?_); focus (simp [lo, w1, w2]; done)) | (with_reducible first | refine qif_i (fun _ => ?_) (fun _ => ?_) | refine frcVs_i ?_ | refine frcRs_i ?_) | (refine qCall.rsent rfl ?_) | (refine qCase_i (slL' rfl rfl rfl rfl rfl rfl rfl rfl hcb hsl) ?_)) <;> (conv => whnf))))
        ((with_reducible refine qCall.of (cS) [(1, 1)] [(0, 0), (2, 2), (3, 3), (4, 4), (5, 5), (6, 8), (7, 9)] [] [(8, 10), (9, 11)] [(1, rsO (rsN 2 3 4 5 10 11 (y.seg y.c.nx 24 data))), (8, .dead), (9, .dead), (10, .uniq), (11, .uniq)] (.tup []) ?hk ?_); (case hk => rfl); (conv => whnf); (repeat (refine And.intro ?_ ?_; exact sideT; (conv => whnf))); (fail_if_success (with_reducible first | refine And.intro (eqv_i ?_) ?_ | refine And.intro (ren_i ?_) ?_)))
        ((conv => whnf); (repeat' ((first | (with_reducible first | refine qif_n ?_ | refine qif_t ‹_› ?_ | refine qif_f ‹_› ?_) | ((with_reducible refine qif_t ?_ ?_); focus decide) | ((with_reducible refine qif_f ?_ ?_); focus decide) | (with_reducible refine And.intro (orderOk_i ?ho) ?_; (case ho => kernel_rfl)) | (with_reducible first | refine qif_i (fun _ => ?_) (fun _ => ?_) | refine frcVs_i ?_ | refine frcRs_i ?_) | ((with_reducible refine qCall.pure (refAdd_l _ _) ?_ ?_ ?_ ?_); rotate_left 4; exact trivial; exact plT; exact plT)) <;> (conv => whnf))))
        have hp1 : y.pump1 = { c := { y.c with nx := wadd y.c.nx N }, out := y.out ++ [⟨y.c.port, y.c.pp, y.c.nx, y.c.inx, 24, 2048, data⟩], told := y.told } := by
          unfold Stp.pump1; rw [hN, hsn, Int.toNat_natCast, Int.toNat_natCast, hda]
        refine ⟨y.pump1, ⟨h1', ?_, ?_⟩, ?_, ?_⟩
        · rw [h2']
          have e1 : y.pump1.c.len = y.c.len := rfl
          have e2 : y.pump1.out.length = y.out.length + 1 := by rw [hp1]; simp
          rw [e1, e2]; omega
        · rw [← hgs]; exact hg
        · rw [h2']
          have e1 : y.pump1.c.len = y.c.len := rfl
          have e3 : y.c.len = y.c.out.length := rfl
          rw [e1]; omega
        · as_aux_lemma =>
            rw [hp1, hM]
            (refine qConv.of hB [(1, 1)] [(0, 0), (2, 2), (3, 3), (4, 4), (5, 5), (10, 8), (11, 9)] [] (by rfl) ?_; focus ((conv => whnf); (repeat (refine And.intro ?_ ?_; rotate_left; (conv => whnf))); exact trivial; all_goals (try exact andT)))
            all_goals (try exact dt_AhTcpS_ROWR)
      · have hxe : pumpGo x.c.out.length x = y := by rw [← hg]; exact pumpGo_end (by omega) _
        have hM : min 536 (min (IntKind.i64.wrap (((y.c.out.map bR).length : Int) - wdiff y.c.nx y.c.una)) (IntKind.i64.wrap (y.c.win - wdiff y.c.nx y.c.una))) = y.c.pumpN := by rw [lo, w1, w2]; unfold Cn.pumpN Cn.len Cn.sent; omega
        have hcond : decide (min 536 (min (IntKind.i64.wrap (((y.c.out.map bR).length : Int) - wdiff y.c.nx y.c.una)) (IntKind.i64.wrap (y.c.win - wdiff y.c.nx y.c.una))) ≤ 0) = true := by rw [hM]; simp; omega
        subst hE
        ((conv => whnf); (repeat' ((first | (with_reducible first | refine qif_n ?_ | refine qif_t ‹_› ?_ | refine qif_f ‹_› ?_) | ((with_reducible refine qif_t ?_ ?_); focus decide) | ((with_reducible refine qif_f ?_ ?_); focus decide) | (with_reducible refine And.intro (orderOk_i ?ho) ?_; (case ho => kernel_rfl)) | ((with_reducible refine qif_t ?_ ?_); focus (simp [lo, w1, w2]; done)) | ((with_reducible refine qif_f ?_ ?_); focus (simp [lo, w1, w2]; done)) | (with_reducible first | refine qif_i (fun _ => ?_) (fun _ => ?_) | refine frcVs_i ?_ | refine frcRs_i ?_) | (refine qCall.rsent rfl ?_)) <;> (conv => whnf))))
        refine ⟨y, ⟨hy, by unfold Cn.len Cn.sent at hb; omega, by unfold Stp.pump; rw [hxe]⟩, ?_⟩
        (refine qConv.of hB [(1, 1)] [(0, 0), (2, 2), (3, 3), (4, 4), (5, 5), (8, 8), (9, 9)] [] (by rfl) ?_; focus ((conv => whnf); (repeat (refine And.intro ?_ ?_; rotate_left; (conv => whnf))); exact trivial; all_goals (try exact andT)))
        all_goals (try exact dt_AhTcpS_ROWR)
  · rintro y ⟨hy, ho, hg⟩
    have lo : (y.c.out.map bR).length = y.c.out.length := by simp
    have cS := rseg_l y y.c.nx 17 [] (by simp) (by omega)
    have hg2 := hg.trans (congrArg Stp.pump3 (pump2_eq y))
    obtain ⟨z, hz⟩ : ∃ z, x.pump = z := ⟨_, rfl⟩
    rw [hz] at hg2 ⊢
    clear hg hz
    unfold Cn.sent at hg2
    dsimp only [rsN, spL] at cS ⊢
    ((conv => whnf); (repeat' ((first | (with_reducible first | refine qif_n ?_ | refine qif_t ‹_› ?_ | refine qif_f ‹_› ?_) | ((with_reducible refine qif_t ?_ ?_); focus decide) | ((with_reducible refine qif_f ?_ ?_); focus decide) | (with_reducible refine And.intro (orderOk_i ?ho) ?_; (case ho => kernel_rfl)) | ((with_reducible refine qif_t ?_ ?_); focus (simp []; done)) | ((with_reducible refine qif_f ?_ ?_); focus (simp []; done)) | (with_reducible first | refine qif_i (fun _ => ?_) (fun _ => ?_) | refine frcVs_i ?_ | refine frcRs_i ?_) | (refine qCall.rsent rfl ?_) | ((with_reducible refine qCall.pure (refAdd_l _ _) ?_ ?_ ?_ ?_); rotate_left 4; exact trivial; exact plT; exact plT) | ((with_reducible refine qCall.pure (trefStart_l _) ?_ ?_ ?_ ?_); rotate_left 4; exact trivial; exact plT; exact plT) | (((with_reducible refine qCall.of (cS) [(1, 1)] [(0, 0), (2, 2), (3, 3), (4, 4), (5, 5), (6, 8), (7, 9)] [] [(8, 10), (9, 11)] [(1, rsO (spL (bL 2 y.c.out) (.list 3 2 (y.c.parts.map (prt 4))) (.glist 10 7 ((y.out ++ [(⟨y.c.port, y.c.pp, y.c.nx, y.c.inx, 17, 2048, []⟩ : Sg)]).map (sgR 11))) (bL 5 y.told) y.c)), (8, .dead), (9, .dead), (10, .uniq), (11, .uniq)] (.tup []) ?hk ?_); (case hk => rfl); (conv => whnf); (repeat (refine And.intro ?_ ?_; exact sideT; (conv => whnf))); (fail_if_success (with_reducible first | refine And.intro (eqv_i ?_) ?_ | refine And.intro (ren_i ?_) ?_))))) <;> (conv => whnf))))
    all_goals as_aux_lemma =>
      all_goals (try simp only [bne, Bool.not_eq_true', Bool.not_eq_false', List.length_map] at *)
      all_goals (simp only [*, cond_true, cond_false, Bool.and_true, Bool.and_false] at hg2)
      all_goals (rw [pump3_eq] at hg2; unfold Cn.sent at hg2; dsimp only at hg2)
      all_goals (simp only [*, cond_true, cond_false, Bool.true_or, Bool.or_true, Bool.false_or, Bool.or_false, Bool.true_and, Bool.false_and, Bool.and_true, Bool.and_false, Bool.not_true, Bool.not_false] at hg2)
      all_goals subst hg2
      all_goals (try simp only [show y.c.closing = true by assumption])
      all_goals (try simp only [show y.c.closing = false by assumption])
      all_goals first | ((refine qConv.of hB [(1, 1)] [(0, 0), (2, 2), (3, 3), (4, 4), (5, 5), (10, 8), (11, 9)] [] (by rfl) ?_; focus ((conv => whnf); (repeat (refine And.intro ?_ ?_; rotate_left; (conv => whnf))); exact trivial; all_goals (try exact andT)))) | ((refine qConv.of hB [(1, 1)] [(0, 0), (2, 2), (3, 3), (4, 4), (5, 5), (8, 8), (9, 9)] [] (by rfl) ?_; focus ((conv => whnf); (repeat (refine And.intro ?_ ?_; rotate_left; (conv => whnf))); exact trivial; all_goals (try exact andT))))
      all_goals (try exact dt_AhTcpS_ROWR)
end Go.Proofs.YtoknaaoioglapaaGreat

/- The page's connection sends, is closed, aborted, opened: on data. Conditions: lengths. -/
namespace Go.Proofs.YtoknaaoioglapaaGreat
open Go.RowKit
set_option linter.unusedVariables false
set_option linter.unusedSimpArgs false
set_option maxRecDepth 100000
set_option maxHeartbeats 4000000
theorem dt_AhTcpV_ROWR {p : Prop} (h : p := by first | ((first | rfl | (refine RowsRen.one ?_; (repeat (refine Cells.cons ?_ ?_; focus (first | exact .val _ | exact Ren.ll rfl _ | exact Ren.gg rfl _ | exact Ren.g2 rfl _ | exact Ren.vnil _ _ | exact Ren.vgnil _ _ | exact Ren.sll rfl rfl _ | exact Ren.sllN rfl rfl rfl rfl | exact Ren.sll1 rfl rfl rfl rfl | exact Ren.pll rfl rfl _ | fail))); exact Cells.nil) | exact segs_ll rfl _ | exact parts_ll rfl _ | exact bytes_cells _); done) | fail) : p := h
abbrev rsH (x : Stp) : List Own := [.perm, rsO (rsN 2 3 4 5 6 7 x), .uniq, .uniq, .uniq, .uniq, .uniq, .uniq]
theorem rAbort_l (c : Cn) (h : cnB c = true) : ACallL Tryz.prog 36 [.agg (cnR 0 c)] [.perm] (.ptr 1 0 0) (rsH c.aborts) := by
  have px := pl_bytes c.out
  have py := pl_parts c.parts
  have hI := (cnB_iff c).1 h
  have cB := begin_l c hI.cnLen
  have cS := rseg_l c.start c.nx 20 [] (by simp) (by simp [Cn.start])
  obtain ⟨y, hy⟩ : ∃ r, c.start.seg c.nx 20 [] = r := ⟨_, rfl⟩
  rw [hy] at cS
  have cC := rshut_l y
  unfold Cn.aborts Stp.abort
  have e0 : c.start.c = c := rfl
  rw [e0, hy]
  cases h0 : (c.st == 0) with
  | true =>
    have h0' : (c.st != 0) = false := by simpa using h0
    have e1 : c.start.shut = c.start := by
      obtain ⟨z1, z2, z3⟩ := hI.num.z (by simpa using h0)
      unfold Cn.start Stp.shut Cn.shut
      obtain ⟨link, ip, pp, port, st, una, nx, win, out, inx, parts, closing, tm⟩ := c
      simp only at z1 z2 z3 h0
      subst z1 z2 z3
      simp only [beq_iff_eq] at h0
      subst h0
      rfl
    rw [cond_true, e1]
    unfold Cn.start at cB ⊢
    dsimp only [cnR, cnL, rsN, spL] at cB ⊢
    refine ACallL.of_ev mixed Tryz.func36 rfl (fun a w => Tryz.call36 a w) (congrArg Array.toList Tryz.results36) Tryz.ntmps36 fun B hB => ?_
    ((conv => whnf); (repeat' ((first | (with_reducible first | refine qif_n ?_ | refine qif_t ‹_› ?_ | refine qif_f ‹_› ?_) | ((with_reducible refine qif_t ?_ ?_); focus decide) | ((with_reducible refine qif_f ?_ ?_); focus decide) | (with_reducible refine And.intro (orderOk_i ?ho) ?_; (case ho => kernel_rfl)) | (with_reducible first | refine qif_i (fun _ => ?_) (fun _ => ?_) | refine frcVs_i ?_ | refine frcRs_i ?_)) <;> (conv => whnf))))
    ((with_reducible refine qCall.of (cB) [] [(0, 0)] [] [(1, 2), (2, 3), (3, 4), (4, 5), (5, 6), (6, 7), (7, 8)] [(2, rsO (rsN 3 4 5 6 7 8 ⟨c, [], []⟩)), (3, .uniq), (4, .uniq), (5, .uniq), (6, .uniq), (7, .uniq), (8, .uniq)] (.ptr 2 0 0) ?hk ?_); (case hk => rfl); (conv => whnf); (repeat (refine And.intro ?_ ?_; exact sideT; (conv => whnf))); (fail_if_success (with_reducible first | refine And.intro (eqv_i ?_) ?_ | refine And.intro (ren_i ?_) ?_)))
    ((conv => whnf); (repeat' ((first | (with_reducible first | refine qif_n ?_ | refine qif_t ‹_› ?_ | refine qif_f ‹_› ?_) | ((with_reducible refine qif_t ?_ ?_); focus decide) | ((with_reducible refine qif_f ?_ ?_); focus decide) | (with_reducible refine And.intro (orderOk_i ?ho) ?_; (case ho => kernel_rfl)) | (with_reducible first | refine qif_i (fun _ => ?_) (fun _ => ?_) | refine frcVs_i ?_ | refine frcRs_i ?_)) <;> (conv => whnf))))
    (refine qConv.of hB [(2, 1)] [(0, 0), (3, 2), (4, 3), (5, 4), (6, 5), (7, 6), (8, 7)] [] (by rfl) ?_; focus ((conv => whnf); (repeat (refine And.intro ?_ ?_; rotate_left; (conv => whnf))); exact trivial; all_goals (try exact andT)))
    all_goals (try exact dt_AhTcpV_ROWR)
  | false =>
    have h0' : (c.st != 0) = true := by simpa using h0
    rw [cond_false]
    unfold Cn.start at cB cS
    dsimp only [cnR, cnL, rsN, spL] at cB cS cC ⊢
    refine ACallL.of_ev mixed Tryz.func36 rfl (fun a w => Tryz.call36 a w) (congrArg Array.toList Tryz.results36) Tryz.ntmps36 fun B hB => ?_
    ((conv => whnf); (repeat' ((first | (with_reducible first | refine qif_n ?_ | refine qif_t ‹_› ?_ | refine qif_f ‹_› ?_) | ((with_reducible refine qif_t ?_ ?_); focus decide) | ((with_reducible refine qif_f ?_ ?_); focus decide) | (with_reducible refine And.intro (orderOk_i ?ho) ?_; (case ho => kernel_rfl)) | (with_reducible first | refine qif_i (fun _ => ?_) (fun _ => ?_) | refine frcVs_i ?_ | refine frcRs_i ?_)) <;> (conv => whnf))))
    ((with_reducible refine qCall.of (cB) [] [(0, 0)] [] [(1, 2), (2, 3), (3, 4), (4, 5), (5, 6), (6, 7), (7, 8)] [(2, rsO (rsN 3 4 5 6 7 8 ⟨c, [], []⟩)), (3, .uniq), (4, .uniq), (5, .uniq), (6, .uniq), (7, .uniq), (8, .uniq)] (.ptr 2 0 0) ?hk ?_); (case hk => rfl); (conv => whnf); (repeat (refine And.intro ?_ ?_; exact sideT; (conv => whnf))); (fail_if_success (with_reducible first | refine And.intro (eqv_i ?_) ?_ | refine And.intro (ren_i ?_) ?_)))
    ((conv => whnf); (repeat' ((first | (with_reducible first | refine qif_n ?_ | refine qif_t ‹_› ?_ | refine qif_f ‹_› ?_) | ((with_reducible refine qif_t ?_ ?_); focus decide) | ((with_reducible refine qif_f ?_ ?_); focus decide) | (with_reducible refine And.intro (orderOk_i ?ho) ?_; (case ho => kernel_rfl)) | (with_reducible first | refine qif_i (fun _ => ?_) (fun _ => ?_) | refine frcVs_i ?_ | refine frcRs_i ?_)) <;> (conv => whnf))))
    ((with_reducible refine qCall.of (cS) [(1, 2)] [(0, 0), (2, 3), (3, 4), (4, 5), (5, 6), (6, 7), (7, 8)] [] [(8, 9), (9, 10)] [(2, rsO (rsN 3 4 5 6 9 10 y)), (7, .dead), (8, .dead), (9, .uniq), (10, .uniq)] (.tup []) ?hk ?_); (case hk => rfl); (conv => whnf); (repeat (refine And.intro ?_ ?_; exact sideT; (conv => whnf))); (fail_if_success (with_reducible first | refine And.intro (eqv_i ?_) ?_ | refine And.intro (ren_i ?_) ?_)))
    ((conv => whnf); (repeat' ((first | (with_reducible first | refine qif_n ?_ | refine qif_t ‹_› ?_ | refine qif_f ‹_› ?_) | ((with_reducible refine qif_t ?_ ?_); focus decide) | ((with_reducible refine qif_f ?_ ?_); focus decide) | (with_reducible refine And.intro (orderOk_i ?ho) ?_; (case ho => kernel_rfl)) | (with_reducible first | refine qif_i (fun _ => ?_) (fun _ => ?_) | refine frcVs_i ?_ | refine frcRs_i ?_)) <;> (conv => whnf))))
    ((with_reducible refine qCall.of (cC) [(1, 2)] [(0, 0), (2, 3), (3, 4), (4, 5), (5, 6), (6, 9), (7, 10)] [] [] [(2, rsO (rsN 3 4 5 6 9 10 y.shut))] (.tup []) ?hk ?_); (case hk => rfl); (conv => whnf); (repeat (refine And.intro ?_ ?_; exact sideT; (conv => whnf))); (fail_if_success (with_reducible first | refine And.intro (eqv_i ?_) ?_ | refine And.intro (ren_i ?_) ?_)))
    ((conv => whnf); (repeat' ((first | (with_reducible first | refine qif_n ?_ | refine qif_t ‹_› ?_ | refine qif_f ‹_› ?_) | ((with_reducible refine qif_t ?_ ?_); focus decide) | ((with_reducible refine qif_f ?_ ?_); focus decide) | (with_reducible refine And.intro (orderOk_i ?ho) ?_; (case ho => kernel_rfl)) | (with_reducible first | refine qif_i (fun _ => ?_) (fun _ => ?_) | refine frcVs_i ?_ | refine frcRs_i ?_)) <;> (conv => whnf))))
    (refine qConv.of hB [(2, 1)] [(0, 0), (3, 2), (4, 3), (5, 4), (6, 5), (9, 6), (10, 7)] [] (by rfl) ?_; focus ((conv => whnf); (repeat (refine And.intro ?_ ?_; rotate_left; (conv => whnf))); exact trivial; all_goals (try exact andT)))
    all_goals (try exact dt_AhTcpV_ROWR)
theorem beginG_l (c : Cn) (hc : CnLen c) : ACallL Tryz.prog 63 [.agg (cnR 0 c)] [.perm] (.ptr 1 0 0) [.perm, rsO (spL (gL 2 c.out) (.list 3 2 (c.parts.map (prt 4))) (.glist 6 7 (([] : List Sg).map (sgR 7))) (bL 5 []) c), .uniq, .uniq, .uniq, .uniq, .uniq, .uniq] := by
  have cO := copyConn_l c hc
  dsimp only [cnR, cnL, cnG, spL] at cO ⊢
  refine ACallL.of_ev mixed Tryz.func63 rfl (fun a w => Tryz.call63 a w) (congrArg Array.toList Tryz.results63) Tryz.ntmps63 fun B hB => ?_
  ((conv => whnf); (repeat' ((first | (with_reducible first | refine qif_n ?_ | refine qif_t ‹_› ?_ | refine qif_f ‹_› ?_) | ((with_reducible refine qif_t ?_ ?_); focus decide) | ((with_reducible refine qif_f ?_ ?_); focus decide) | (with_reducible refine And.intro (orderOk_i ?ho) ?_; (case ho => kernel_rfl)) | (with_reducible first | refine qif_i (fun _ => ?_) (fun _ => ?_) | refine frcVs_i ?_ | refine frcRs_i ?_)) <;> (conv => whnf))))
  ((with_reducible refine qCall.of (cO) [] [(0, 0)] [] [(1, 2), (2, 3), (3, 4)] [(2, .uniq), (3, .uniq), (4, .uniq)] (.agg (cnG 2 3 4 c)) ?hk ?_); (case hk => rfl); (conv => whnf); (repeat (refine And.intro ?_ ?_; exact sideT; (conv => whnf))); (fail_if_success (with_reducible first | refine And.intro (eqv_i ?_) ?_ | refine And.intro (ren_i ?_) ?_)))
  ((conv => whnf); (repeat' ((first | (with_reducible first | refine qif_n ?_ | refine qif_t ‹_› ?_ | refine qif_f ‹_› ?_) | ((with_reducible refine qif_t ?_ ?_); focus decide) | ((with_reducible refine qif_f ?_ ?_); focus decide) | (with_reducible refine And.intro (orderOk_i ?ho) ?_; (case ho => kernel_rfl)) | (with_reducible first | refine qif_i (fun _ => ?_) (fun _ => ?_) | refine frcVs_i ?_ | refine frcRs_i ?_)) <;> (conv => whnf))))
  (refine qConv.of hB [(5, 1)] [(0, 0), (2, 2), (3, 3), (4, 4)] [] (by rfl) ?_; focus ((conv => whnf); (repeat (refine And.intro ?_ ?_; rotate_left; (conv => whnf))); exact trivial; all_goals (try exact andT)))
  all_goals (try (first | rfl | (refine RowsRen.one ?_; (repeat (refine Cells.cons ?_ ?_; focus (first | exact .val _ | exact Ren.gg rfl _ | exact Ren.pg2 rfl rfl _ | exact Ren.vnil _ _ | exact Ren.vgnil _ _ | fail))); exact Cells.nil)))
theorem rClose_no (c : Cn) (h : c.closeE = 6) : ACallL Tryz.prog 34 [.agg (cnR 0 c)] [.perm] (.tup [.val (.pointer none), .val (.int .i64 6)]) [.perm] := by
  have px := pl_bytes c.out
  have py := pl_parts c.parts
  unfold Cn.closeE Cn.talks at h
  dsimp only [cnR, cnL]
  refine ACallL.of_ev mixed Tryz.func34 rfl (fun a w => Tryz.call34 a w) (congrArg Array.toList Tryz.results34) Tryz.ntmps34 fun B hB => ?_
  ((conv => whnf); (repeat' ((first | (with_reducible first | refine qif_n ?_ | refine qif_t ‹_› ?_ | refine qif_f ‹_› ?_) | ((with_reducible refine qif_t ?_ ?_); focus decide) | ((with_reducible refine qif_f ?_ ?_); focus decide) | (with_reducible refine And.intro (orderOk_i ?ho) ?_; (case ho => kernel_rfl)) | (with_reducible first | refine qif_i (fun _ => ?_) (fun _ => ?_) | refine frcVs_i ?_ | refine frcRs_i ?_)) <;> (conv => whnf))))
  all_goals (try simp only [bne, Bool.not_eq_true', Bool.not_eq_false'] at *)
  all_goals first | ((refine qConv.of hB [] [(0, 0)] [] (by rfl) ?_; focus ((conv => whnf); (repeat (refine And.intro ?_ ?_; rotate_left; (conv => whnf))); exact trivial; all_goals (try exact andT)))) | (exfalso; simp_all; done)
theorem rClose_l (c : Cn) (h : cnB c = true) (he : c.closeE = 0) : ACallL Tryz.prog 34 [.agg (cnR 0 c)] [.perm] (.tup [.ptr 1 0 0, .val (.int .i64 0)]) (rsH c.closes) := by
  have px := pl_bytes c.out
  have py := pl_parts c.parts
  have hI := (cnB_iff c).1 h
  have cB := begin_l c hI.cnLen
  obtain ⟨hcl, hts⟩ : c.closing = false ∧ (c.talks || c.st == 1) = true := by
    unfold Cn.closeE at he
    cases h1 : c.closing <;> cases h2 : (c.talks || c.st == 1) <;> rw [h1, h2] at he <;> simp at he ⊢
  unfold Cn.closes
  cases ht : c.talks with
  | true =>
    have cP := rpump_l (({ c with closing := true } : Cn)).start ⟨hI.una, hI.nx, ((hI.pumpOk ht).s0), ((hI.pumpOk ht).s1), hI.len, hI.win⟩ (by simp [Cn.start])
    obtain ⟨y, hy⟩ : ∃ r, (({ c with closing := true } : Cn)).start.pump = r := ⟨_, rfl⟩
    rw [hy] at cP
    rw [cond_true, hy]
    have hst : c.st = 2 ∨ c.st = 5 := by simpa [Cn.talks] using ht
    unfold Cn.start at cB cP
    dsimp only [cnR, cnL, rsN, spL] at cB cP ⊢
    rcases hst with hst | hst
    all_goals
      have s1 : (c.st != 1) = true := by rw [hst]; decide
      have s5 : (c.st != 5) = (c.st == 2) := by rw [hst]; decide
      have s2 : (c.st != 2) = (c.st == 5) := by rw [hst]; decide
      have s3 : (c.st == 2) = decide (c.st = 2) := rfl
      refine ACallL.of_ev mixed Tryz.func34 rfl (fun a w => Tryz.call34 a w) (congrArg Array.toList Tryz.results34) Tryz.ntmps34 fun B hB => ?_
      ((conv => whnf); (repeat' ((first | (with_reducible first | refine qif_n ?_ | refine qif_t ‹_› ?_ | refine qif_f ‹_› ?_) | ((with_reducible refine qif_t ?_ ?_); focus decide) | ((with_reducible refine qif_f ?_ ?_); focus decide) | (with_reducible refine And.intro (orderOk_i ?ho) ?_; (case ho => kernel_rfl)) | ((with_reducible refine qif_t ?_ ?_); focus (simp [hcl, hst]; done)) | ((with_reducible refine qif_f ?_ ?_); focus (simp [hcl, hst]; done)) | (with_reducible first | refine qif_i (fun _ => ?_) (fun _ => ?_) | refine frcVs_i ?_ | refine frcRs_i ?_)) <;> (conv => whnf))))
      ((with_reducible refine qCall.of (cB) [] [(0, 0)] [] [(1, 2), (2, 3), (3, 4), (4, 5), (5, 6), (6, 7), (7, 8)] [(2, rsO (rsN 3 4 5 6 7 8 ⟨c, [], []⟩)), (3, .uniq), (4, .uniq), (5, .uniq), (6, .uniq), (7, .uniq), (8, .uniq)] (.ptr 2 0 0) ?hk ?_); (case hk => rfl); (conv => whnf); (repeat (refine And.intro ?_ ?_; exact sideT; (conv => whnf))); (fail_if_success (with_reducible first | refine And.intro (eqv_i ?_) ?_ | refine And.intro (ren_i ?_) ?_)))
      ((conv => whnf); (repeat' ((first | (with_reducible first | refine qif_n ?_ | refine qif_t ‹_› ?_ | refine qif_f ‹_› ?_) | ((with_reducible refine qif_t ?_ ?_); focus decide) | ((with_reducible refine qif_f ?_ ?_); focus decide) | (with_reducible refine And.intro (orderOk_i ?ho) ?_; (case ho => kernel_rfl)) | ((with_reducible refine qif_t ?_ ?_); focus (simp [hcl, hst]; done)) | ((with_reducible refine qif_f ?_ ?_); focus (simp [hcl, hst]; done)) | (with_reducible first | refine qif_i (fun _ => ?_) (fun _ => ?_) | refine frcVs_i ?_ | refine frcRs_i ?_)) <;> (conv => whnf))))
      ((with_reducible refine qCall.of (cP) [(1, 2)] [(0, 0), (2, 3), (3, 4), (4, 5), (5, 6), (6, 7), (7, 8)] [] [(8, 9), (9, 10)] [(2, rsO (rsN 3 4 5 6 9 10 y)), (7, .dead), (8, .dead), (9, .uniq), (10, .uniq)] (.tup []) ?hk ?_); (case hk => rfl); (conv => whnf); (repeat (refine And.intro ?_ ?_; exact sideT; (conv => whnf))); (fail_if_success (with_reducible first | refine And.intro (eqv_i ?_) ?_ | refine And.intro (ren_i ?_) ?_)))
      ((conv => whnf); (repeat' ((first | (with_reducible first | refine qif_n ?_ | refine qif_t ‹_› ?_ | refine qif_f ‹_› ?_) | ((with_reducible refine qif_t ?_ ?_); focus decide) | ((with_reducible refine qif_f ?_ ?_); focus decide) | (with_reducible refine And.intro (orderOk_i ?ho) ?_; (case ho => kernel_rfl)) | (with_reducible first | refine qif_i (fun _ => ?_) (fun _ => ?_) | refine frcVs_i ?_ | refine frcRs_i ?_)) <;> (conv => whnf))))
      (refine qConv.of hB [(2, 1)] [(0, 0), (3, 2), (4, 3), (5, 4), (6, 5), (9, 6), (10, 7)] [] (by rfl) ?_; focus ((conv => whnf); (repeat (refine And.intro ?_ ?_; rotate_left; (conv => whnf))); exact trivial; all_goals (try exact andT)))
      all_goals (try exact dt_AhTcpV_ROWR)
  | false =>
    have hst : c.st = 1 := by rw [ht] at hts; simpa using hts
    rw [cond_false]
    unfold Cn.start at cB ⊢
    dsimp only [cnR, cnL, rsN, spL] at cB ⊢
    refine ACallL.of_ev mixed Tryz.func34 rfl (fun a w => Tryz.call34 a w) (congrArg Array.toList Tryz.results34) Tryz.ntmps34 fun B hB => ?_
    ((conv => whnf); (repeat' ((first | (with_reducible first | refine qif_n ?_ | refine qif_t ‹_› ?_ | refine qif_f ‹_› ?_) | ((with_reducible refine qif_t ?_ ?_); focus decide) | ((with_reducible refine qif_f ?_ ?_); focus decide) | (with_reducible refine And.intro (orderOk_i ?ho) ?_; (case ho => kernel_rfl)) | ((with_reducible refine qif_t ?_ ?_); focus (simp [hcl, hst]; done)) | ((with_reducible refine qif_f ?_ ?_); focus (simp [hcl, hst]; done)) | (with_reducible first | refine qif_i (fun _ => ?_) (fun _ => ?_) | refine frcVs_i ?_ | refine frcRs_i ?_)) <;> (conv => whnf))))
    ((with_reducible refine qCall.of (cB) [] [(0, 0)] [] [(1, 2), (2, 3), (3, 4), (4, 5), (5, 6), (6, 7), (7, 8)] [(2, rsO (rsN 3 4 5 6 7 8 ⟨c, [], []⟩)), (3, .uniq), (4, .uniq), (5, .uniq), (6, .uniq), (7, .uniq), (8, .uniq)] (.ptr 2 0 0) ?hk ?_); (case hk => rfl); (conv => whnf); (repeat (refine And.intro ?_ ?_; exact sideT; (conv => whnf))); (fail_if_success (with_reducible first | refine And.intro (eqv_i ?_) ?_ | refine And.intro (ren_i ?_) ?_)))
    ((conv => whnf); (repeat' ((first | (with_reducible first | refine qif_n ?_ | refine qif_t ‹_› ?_ | refine qif_f ‹_› ?_) | ((with_reducible refine qif_t ?_ ?_); focus decide) | ((with_reducible refine qif_f ?_ ?_); focus decide) | (with_reducible refine And.intro (orderOk_i ?ho) ?_; (case ho => kernel_rfl)) | ((with_reducible refine qif_t ?_ ?_); focus (simp [hcl, hst]; done)) | ((with_reducible refine qif_f ?_ ?_); focus (simp [hcl, hst]; done)) | (with_reducible first | refine qif_i (fun _ => ?_) (fun _ => ?_) | refine frcVs_i ?_ | refine frcRs_i ?_)) <;> (conv => whnf))))
    (refine qConv.of hB [(2, 1)] [(0, 0), (3, 2), (4, 3), (5, 4), (6, 5), (7, 6), (8, 7)] [] (by rfl) ?_; focus ((conv => whnf); (repeat (refine And.intro ?_ ?_; rotate_left; (conv => whnf))); exact trivial; all_goals (try exact andT)))
    all_goals (try exact dt_AhTcpV_ROWR)
theorem rSend_no (c : Cn) (xs : List Int) (ho : c.out.length ≤ 8192) (h : c.sendE xs ≠ 0) : ACallL Tryz.prog 31 [.agg (cnR 0 c), bL 0 xs] [.perm] (.tup [.val (.pointer none), .val (.int .i64 (c.sendE xs))]) [.perm] := by
  have px := pl_bytes c.out
  have py := pl_parts c.parts
  have pz := pl_bytes xs
  have w := IntWalk.i64_in (8192 - (c.out.length : Int)) (by omega)
  unfold Cn.sendE Cn.talks at h ⊢
  rw [← w] at h ⊢
  clear w ho
  dsimp only [cnR, cnL]
  refine ACallL.of_ev mixed Tryz.func31 rfl (fun a w => Tryz.call31 a w) (congrArg Array.toList Tryz.results31) Tryz.ntmps31 fun B hB => ?_
  ((conv => whnf); (repeat' ((first | (with_reducible first | refine qif_n ?_ | refine qif_t ‹_› ?_ | refine qif_f ‹_› ?_) | ((with_reducible refine qif_t ?_ ?_); focus decide) | ((with_reducible refine qif_f ?_ ?_); focus decide) | (with_reducible refine And.intro (orderOk_i ?ho) ?_; (case ho => kernel_rfl)) | (with_reducible first | refine qif_i (fun _ => ?_) (fun _ => ?_) | refine frcVs_i ?_ | refine frcRs_i ?_)) <;> (conv => whnf))))
  all_goals (try simp only [bne, Bool.not_eq_true', Bool.not_eq_false', List.length_map] at *)
  all_goals (try simp only [*, cond_true, cond_false, Bool.true_or, Bool.or_true, Bool.false_or, Bool.or_false, Bool.true_and, Bool.false_and, Bool.and_true, Bool.and_false, Bool.not_true, Bool.not_false])
  all_goals first | ((refine qConv.of hB [] [(0, 0)] [] (by rfl) ?_; focus ((conv => whnf); (repeat (refine And.intro ?_ ?_; rotate_left; (conv => whnf))); exact trivial; all_goals (try exact andT)))) | (exfalso; simp_all; done)
theorem rSend_l (c : Cn) (xs : List Int) (h : cnB c = true) (he : c.sendE xs = 0) : ACallL Tryz.prog 31 [.agg (cnR 0 c), bL 0 xs] [.perm] (.tup [.ptr 1 0 0, .val (.int .i64 0)]) (rsH (c.sends xs)) := by
  have px := pl_bytes c.out
  have py := pl_parts c.parts
  have pz := pl_bytes xs
  have hI := (cnB_iff c).1 h
  have cB := beginG_l c hI.cnLen
  have hlen := hI.len
  have lo : (c.out.map bR).length = c.out.length := by simp
  have lx : (xs.map bR).length = xs.length := by simp
  obtain ⟨ht, hcl, hle⟩ : c.talks = true ∧ c.closing = false ∧ ¬ (8192 - (c.out.length : Int) < (xs.length : Int)) := by
    unfold Cn.sendE at he
    cases h1 : c.closing <;> cases h2 : c.talks <;> rw [h1, h2] at he <;> simp at he ⊢
    cases h3 : decide (8192 - (c.out.length : Int) < (xs.length : Int)) with
    | true => rw [h3] at he; simp at he
    | false => simpa using h3
  have w := IntWalk.i64_in (8192 - (c.out.length : Int)) (by omega)
  have hle' : decide (IntKind.i64.wrap (8192 - ((c.out.map bR).length : Int)) < ((xs.map bR).length : Int)) = false := by rw [lo, lx, w, decide_eq_false_iff_not]; exact hle
  unfold Cn.sends
  have hlx : (c.out ++ xs).length ≤ 8192 := by simp; omega
  have hP := hI.pumpOk ht
  have cP := rpump_l (({ c with out := c.out ++ xs } : Cn)).start ⟨hI.una, hI.nx, hP.s0, by have := hP.s1; show wdiff c.nx c.una ≤ ((c.out ++ xs).length : Int); unfold Cn.sent at this; simp; omega, hlx, hI.win⟩ (by simp [Cn.start])
  obtain ⟨y, hy⟩ : ∃ r, (({ c with out := c.out ++ xs } : Cn)).start.pump = r := ⟨_, rfl⟩
  rw [hy] at cP ⊢
  have hst : c.st = 2 ∨ c.st = 5 := by simpa [Cn.talks] using ht
  have hmap : c.out.map bR ++ xs.map bR = (c.out ++ xs).map bR := by simp
  unfold Cn.start at cP
  dsimp only [cnR, cnL, rsN, spL] at cB cP ⊢
  rcases hst with hst | hst
  all_goals
    refine ACallL.of_ev mixed Tryz.func31 rfl (fun a w => Tryz.call31 a w) (congrArg Array.toList Tryz.results31) Tryz.ntmps31 fun B hB => ?_
    ((conv => whnf); (repeat' ((first | (with_reducible first | refine qif_n ?_ | refine qif_t ‹_› ?_ | refine qif_f ‹_› ?_) | ((with_reducible refine qif_t ?_ ?_); focus decide) | ((with_reducible refine qif_f ?_ ?_); focus decide) | (with_reducible refine And.intro (orderOk_i ?ho) ?_; (case ho => kernel_rfl)) | ((with_reducible refine qif_t ?_ ?_); focus (simp [hcl, hst]; done)) | ((with_reducible refine qif_f ?_ ?_); focus (simp [hcl, hst]; done)) | (with_reducible first | refine qif_i (fun _ => ?_) (fun _ => ?_) | refine frcVs_i ?_ | refine frcRs_i ?_)) <;> (conv => whnf))))
    ((with_reducible refine qCall.of (cB) [] [(0, 0)] [] [(1, 2), (2, 3), (3, 4), (4, 5), (5, 6), (6, 7), (7, 8)] [(2, rsO (spL (gL 3 c.out) (.list 4 2 (c.parts.map (prt 5))) (.glist 7 7 (([] : List Sg).map (sgR 8))) (bL 6 []) c)), (3, .uniq), (4, .uniq), (5, .uniq), (6, .uniq), (7, .uniq), (8, .uniq)] (.ptr 2 0 0) ?hk ?_); (case hk => rfl); (conv => whnf); (repeat (refine And.intro ?_ ?_; exact sideT; (conv => whnf))); (fail_if_success (with_reducible first | refine And.intro (eqv_i ?_) ?_ | refine And.intro (ren_i ?_) ?_)))
    ((conv => whnf); (repeat' ((first | (with_reducible first | refine qif_n ?_ | refine qif_t ‹_› ?_ | refine qif_f ‹_› ?_) | ((with_reducible refine qif_t ?_ ?_); focus decide) | ((with_reducible refine qif_f ?_ ?_); focus decide) | (with_reducible refine And.intro (orderOk_i ?ho) ?_; (case ho => kernel_rfl)) | (with_reducible first | refine qif_i (fun _ => ?_) (fun _ => ?_) | refine frcVs_i ?_ | refine frcRs_i ?_) | (refine qCase_i (apG' (nb := 1) rfl rfl rfl rfl rfl rfl rfl rfl rfl rfl (by decide) (ones_bytes xs) (by rw [lo, lx]; omega) hmap) ?_)) <;> (conv => whnf))))
    ((with_reducible refine qCall.of (cP) [(1, 2)] [(0, 0), (2, 9), (3, 4), (4, 5), (5, 6), (6, 7), (7, 8)] [] [(8, 10), (9, 11)] [(2, rsO (rsN 9 4 5 6 10 11 y)), (7, .dead), (8, .dead), (10, .uniq), (11, .uniq)] (.tup []) ?hk ?_); (case hk => rfl); (conv => whnf); (repeat (refine And.intro ?_ ?_; exact sideT; (conv => whnf))); (fail_if_success (with_reducible first | refine And.intro (eqv_i ?_) ?_ | refine And.intro (ren_i ?_) ?_)))
    ((conv => whnf); (repeat' ((first | (with_reducible first | refine qif_n ?_ | refine qif_t ‹_› ?_ | refine qif_f ‹_› ?_) | ((with_reducible refine qif_t ?_ ?_); focus decide) | ((with_reducible refine qif_f ?_ ?_); focus decide) | (with_reducible refine And.intro (orderOk_i ?ho) ?_; (case ho => kernel_rfl)) | (with_reducible first | refine qif_i (fun _ => ?_) (fun _ => ?_) | refine frcVs_i ?_ | refine frcRs_i ?_)) <;> (conv => whnf))))
    (refine qConv.of hB [(2, 1)] [(0, 0), (9, 2), (4, 3), (5, 4), (6, 5), (10, 6), (11, 7)] [] (by rfl) ?_; focus ((conv => whnf); (repeat (refine And.intro ?_ ?_; rotate_left; (conv => whnf))); exact trivial; all_goals (try exact andT)))
    all_goals (try exact dt_AhTcpV_ROWR)
theorem refMayOpen_l (link ip iss : Int) (m : Sg) : ACallL Tryz.prog 40 [.val (.int .i64 link), .val (.int .i64 ip), .val (.int .i64 iss), .agg (sgR 0 m)] [.perm] (.val (.bool (openB link ip iss m))) [.perm] := by
  have pz := pl_bytes m.data
  have cS := refSeg_l m
  unfold openB flN
  obtain ⟨bs, hbs⟩ : ∃ b, sgB m = b := ⟨_, rfl⟩
  rw [hbs] at cS ⊢
  clear hbs
  have nl := num_l
  simp only [← within.eq_1] at nl
  dsimp only [sgR, sgL] at cS ⊢
  refine ACallL.of_ev mixed Tryz.func40 rfl (fun a w => Tryz.call40 a w) (congrArg Array.toList Tryz.results40) Tryz.ntmps40 fun B hB => ?_
  ((conv => whnf); (repeat' ((first | (with_reducible first | refine qif_n ?_ | refine qif_t ‹_› ?_ | refine qif_f ‹_› ?_) | ((with_reducible refine qif_t ?_ ?_); focus decide) | ((with_reducible refine qif_f ?_ ?_); focus decide) | (with_reducible refine And.intro (orderOk_i ?ho) ?_; (case ho => kernel_rfl)) | (with_reducible first | refine qif_i (fun _ => ?_) (fun _ => ?_) | refine frcVs_i ?_ | refine frcRs_i ?_) | ((with_reducible refine qCall.pure (nl _ _) ?_ ?_ ?_ ?_); rotate_left 4; exact trivial; exact plT; exact plT) | ((with_reducible refine qCall.pure (refWord_l _) ?_ ?_ ?_ ?_); rotate_left 4; exact trivial; exact plT; exact plT) | ((with_reducible refine qCall.pure (cS) ?_ ?_ ?_ ?_); rotate_left 4; exact trivial; exact plT; exact plT)) <;> (conv => whnf))))
  all_goals (refine qConv.of hB [] [(0, 0)] [] (by rfl) ?_; focus ((conv => whnf); (repeat (refine And.intro ?_ ?_; rotate_left; (conv => whnf))); exact trivial; all_goals (try exact andT)))
  all_goals (try simp only [bne, Bool.not_eq_true', Bool.not_eq_false'] at *)
  all_goals (try simp only [*, Bool.true_and, Bool.false_and, Bool.and_true, Bool.and_false, Bool.not_true, Bool.not_false])
theorem refFits_l (c : Cn) (m : Sg) : ACallL Tryz.prog 44 [.agg (cnR 0 c), .agg (sgR 0 m)] [.perm] (.val (.bool (fitsB c m))) [.perm] := by
  have px := pl_bytes c.out
  have py := pl_parts c.parts
  have pz := pl_bytes m.data
  have cS := refSeg_l m
  unfold fitsB
  obtain ⟨bs, hbs⟩ : ∃ b, sgB m = b := ⟨_, rfl⟩
  rw [hbs] at cS ⊢
  clear hbs
  dsimp only [cnR, cnL, sgR, sgL] at cS ⊢
  refine ACallL.of_ev mixed Tryz.func44 rfl (fun a w => Tryz.call44 a w) (congrArg Array.toList Tryz.results44) Tryz.ntmps44 fun B hB => ?_
  ((conv => whnf); (repeat' ((first | (with_reducible first | refine qif_n ?_ | refine qif_t ‹_› ?_ | refine qif_f ‹_› ?_) | ((with_reducible refine qif_t ?_ ?_); focus decide) | ((with_reducible refine qif_f ?_ ?_); focus decide) | (with_reducible refine And.intro (orderOk_i ?ho) ?_; (case ho => kernel_rfl)) | (with_reducible first | refine qif_i (fun _ => ?_) (fun _ => ?_) | refine frcVs_i ?_ | refine frcRs_i ?_) | ((with_reducible refine qCall.pure (cS) ?_ ?_ ?_ ?_); rotate_left 4; exact trivial; exact plT; exact plT)) <;> (conv => whnf))))
  all_goals (refine qConv.of hB [] [(0, 0)] [] (by rfl) ?_; focus ((conv => whnf); (repeat (refine And.intro ?_ ?_; rotate_left; (conv => whnf))); exact trivial; all_goals (try exact andT)))
  all_goals (try simp only [*, Bool.true_and, Bool.false_and, Bool.and_true, Bool.and_false])
end Go.Proofs.YtoknaaoioglapaaGreat

/- The page's connection takes a segment: on data. Conditions: it may be one, the segment may be one. -/
namespace Go.Proofs.YtoknaaoioglapaaGreat
open Go.RowKit
set_option linter.unusedVariables false
set_option linter.unusedSimpArgs false
set_option maxRecDepth 100000
set_option maxHeartbeats 4000000
theorem dt_AhTcpU_ROWR {p : Prop} (h : p := by first | ((first | rfl | (refine RowsRen.one ?_; (repeat (refine Cells.cons ?_ ?_; focus (first | exact .val _ | exact Ren.ll rfl _ | exact Ren.gg rfl _ | exact Ren.g2 rfl _ | exact Ren.vnil _ _ | exact Ren.vgnil _ _ | exact Ren.sll rfl rfl _ | exact Ren.sllN rfl rfl rfl rfl | exact Ren.sll1 rfl rfl rfl rfl | exact Ren.pll rfl rfl _ | fail))); exact Cells.nil) | exact segs_ll rfl _ | exact parts_ll rfl _ | exact bytes_cells _); done) | fail) : p := h
theorem ack_out' (x : Stp) (m : Sg) : (x.ack m).1.out.length ≤ x.out.length + 1 := by
  have key : ∀ (b : Bool) (p q : Stp × Bool), p.1.out.length ≤ x.out.length + 1 → q.1.out.length ≤ x.out.length + 1 → (bif b then p else q).1.out.length ≤ x.out.length + 1 := fun b p q h1 h2 => by cases b <;> assumption
  unfold Stp.ack
  refine key _ _ _ (key _ _ _ (by simp) (by simp)) (key _ _ _ (by simp [Stp.acks, Stp.seg]) (key _ _ _ (by simp) (key _ _ _ (key _ _ _ (by simp) (key _ _ _ (by simp) (key _ _ _ (by simp) (by simp)))) (by simp))))
theorem data_out' (x : Stp) (m : Sg) : (x.data m).out = x.out := by
  unfold Stp.data Stp.dataFin
  cases x.c.hears <;> simp only [cond_true, cond_false]
  cases flN m.fl 1 <;> simp only [cond_true, cond_false]
  · generalize (wadd m.seq m.data.length == (x.dataIn m).c.inx) = b1
    generalize decide (0 < ((x.dataIn m).c.parts.length : Int)) = b2
    generalize ((x.dataIn m).c.st == 2) = b3
    generalize ((x.dataIn m).c.st == 3) = b4
    cases b1 <;> cases b2 <;> cases b3 <;> cases b4 <;> rfl
  · rfl
theorem refHas_l (s n v : Int) : ACallL Tryz.prog 86 [.val (.int .i64 s), .val (.int .i64 n), .val (.int .i64 v)] [.perm] (.val (.bool (decide (woff v s < n)))) [.perm] := by
  refine ACallL.of_ev mixed Tryz.func86 rfl (fun a w => Tryz.call86 a w) (congrArg Array.toList Tryz.results86) Tryz.ntmps86 fun B hB => ?_
  ((conv => whnf); (repeat' ((first | (with_reducible first | refine qif_n ?_ | refine qif_t ‹_› ?_ | refine qif_f ‹_› ?_) | ((with_reducible refine qif_t ?_ ?_); focus decide) | ((with_reducible refine qif_f ?_ ?_); focus decide) | (with_reducible refine And.intro (orderOk_i ?ho) ?_; (case ho => kernel_rfl)) | (with_reducible first | refine qif_i (fun _ => ?_) (fun _ => ?_) | refine frcVs_i ?_ | refine frcRs_i ?_) | ((with_reducible refine qCall.pure (refOff_l _ _) ?_ ?_ ?_ ?_); rotate_left 4; exact trivial; exact plT; exact plT)) <;> (conv => whnf))))
  all_goals (refine qConv.of hB [] [(0, 0)] [] (by rfl) ?_; focus ((conv => whnf); (repeat (refine And.intro ?_ ?_; rotate_left; (conv => whnf))); exact trivial; all_goals (try exact andT)))
theorem rTake_l (c : Cn) (m : Sg) (hI : CnI c) (hm : sgB m = true) (h0 : (c.st == 0) = false) :
    ACallL Tryz.prog 45 [.agg (cnR 0 c), .agg (sgR 0 m)] [.perm] (.ptr 1 0 0) (rsH (c.takes m)) := by
  have px := pl_bytes c.out
  have py := pl_parts c.parts
  have pz := pl_bytes m.data
  obtain ⟨_, _, hseq, _, _, _, hd⟩ := sgB_t hm
  have cB := begin_l c ⟨by have := hI.len; omega, ptsMay hI.may⟩
  have cL := refLength_l m (by omega)
  have hbl := Sg.len_bd hd
  have w := IntWalk.i64_in (m.len - 1) (by omega)
  have hI1 := ack_I (x := c.start) hI hm (show c.st ≠ 0 by simpa using h0)
  have ho1 := ack_out' c.start m
  have cK := rack_l c.start m (by simp [Cn.start]) hI.len hd
  have cS0 := racks_l c.start (by simp [Cn.start])
  have cC0 := rshut_l c.start
  obtain ⟨⟨x1, b⟩, h1⟩ : ∃ r, c.start.ack m = r := ⟨_, rfl⟩
  rw [h1] at cK hI1 ho1
  dsimp only at cK hI1 ho1
  have cR := rReasm_l x1.c.inx m.seq x1.c.parts m.data hI1.may hseq (by omega)
  have hI2 := data_I hI1 m
  have ho2 := data_out' x1 m
  obtain ⟨x2, h2⟩ : ∃ r, x1.data m = r := ⟨_, rfl⟩
  rw [h2] at hI2 ho2
  have cS2 := racks_l x2 (by rw [ho2]; simp [Cn.start] at ho1; omega)
  have hI3 : CnI x2.acks.c := hI2
  have ho3 : x2.acks.out.length = x2.out.length + 1 := by simp [Stp.acks, Stp.seg]
  obtain ⟨x3, h3⟩ : ∃ r, x2.acks = r := ⟨_, rfl⟩
  rw [h3] at cS2 hI3 ho3
  have h3' := h3
  have cP2 := fun (h : (x2.c.st == 2 || x2.c.st == 5) = true) => rpump_l x2 (hI2.pumpOk h) (by rw [ho2]; simp [Cn.start] at ho1; omega)
  have cP3 := fun (h : (x3.c.st == 2 || x3.c.st == 5) = true) => rpump_l x3 (hI3.pumpOk h) (by rw [ho3, ho2]; simp [Cn.start] at ho1; omega)
  obtain ⟨x4, h4⟩ : ∃ r, x2.pump = r := ⟨_, rfl⟩
  obtain ⟨x5, h5⟩ : ∃ r, x3.pump = r := ⟨_, rfl⟩
  rw [h4] at cP2
  rw [h5] at cP3
  obtain ⟨z, hz⟩ : ∃ z, c.takes m = z := ⟨_, rfl⟩
  rw [hz]
  unfold Cn.takes Stp.take at hz
  have e0 : c.start.c = c := rfl
  rw [h1, e0, h0, cond_false] at hz
  have hs2 := h2
  unfold Stp.data Stp.dataIn Stp.dataFin flN Cn.hears at hs2
  obtain ⟨⟨n', ps', told⟩, hr⟩ : ∃ r, reaS x1.c.inx x1.c.parts m.seq m.data = r := ⟨_, rfl⟩
  rw [hr] at cR hs2
  have hlen : decide (0 < (ps'.length : Int)) = !((ps'.length : Int) == 0) := by
    cases ps' with
    | nil => rfl
    | cons a l => simp; omega
  obtain ⟨acc, hacc⟩ : ∃ r, c.accepts m = r := ⟨_, rfl⟩
  rw [hacc] at hz
  have hacc2 := hacc
  unfold Cn.accepts at hacc2
  rw [← w] at hacc2
  unfold Stp.more flN at hz
  rw [h2] at hz
  clear hI1 hI2 ho1 ho2 hI h1 h2 hr hm hseq hd hbl w hacc
  unfold Cn.start at *
  dsimp only [cnR, cnL, sgR, sgL] at cB cL cK hz hacc2 ⊢
  refine ACallL.of_AWs Tryz.func45 rfl (fun a w => Tryz.call45 a w) (congrArg Array.toList Tryz.results45) Tryz.ntmps45 (by simp only [spine, List.cons_append, List.nil_append, List.append_assoc]; rfl) fun B hB => ?_
  refine qAWs.cut mixed 8 (by simp only [List.take_succ_cons, List.take_zero]; rfl) (by simp only [List.drop_succ_cons, List.drop_zero]; rfl) (by simp only [chain]; rfl) rfl (X := Unit) (fun _ => slotsOf 243 [(2, .ptr 1 0 0), (3, .ptr 2 0 0), (5, .ptr 3 0 0), (6, .val (.int .i64 m.len)), (7, .val (.bool acc))])
    (fun _ => [.perm, .live ⟨16, 29, [cnR 0 c]⟩, .live ⟨7, 43, [sgR 0 m]⟩, rsO (rsN 4 5 6 7 8 9 ⟨c, [], []⟩), .uniq, .uniq, .uniq, .uniq, .uniq, .uniq]) (fun _ => True) ?_ ?_
  · clear hz cK cS0 cC0 cR cS2 hs2
    dsimp only [rsN, spL] at cB ⊢
    ((conv => whnf); (repeat' ((first | (with_reducible first | refine qif_n ?_ | refine qif_t ‹_› ?_ | refine qif_f ‹_› ?_) | ((with_reducible refine qif_t ?_ ?_); focus decide) | ((with_reducible refine qif_f ?_ ?_); focus decide) | (with_reducible refine And.intro (orderOk_i ?ho) ?_; (case ho => kernel_rfl)) | (with_reducible first | refine qif_i (fun _ => ?_) (fun _ => ?_) | refine frcVs_i ?_ | refine frcRs_i ?_) | ((with_reducible refine qCall.pure (cL) ?_ ?_ ?_ ?_); rotate_left 4; exact trivial; exact plT; exact plT) | ((with_reducible refine qCall.pure (refHas_l _ _ _) ?_ ?_ ?_ ?_); rotate_left 4; exact trivial; exact plT; exact plT) | ((with_reducible refine qCall.pure (refAdd_l _ _) ?_ ?_ ?_ ?_); rotate_left 4; exact trivial; exact plT; exact plT) | (((with_reducible refine qCall.of (cB) [] [(0, 0)] [] [(1, 3), (2, 4), (3, 5), (4, 6), (5, 7), (6, 8), (7, 9)] [(3, rsO (rsN 4 5 6 7 8 9 ⟨c, [], []⟩)), (4, .uniq), (5, .uniq), (6, .uniq), (7, .uniq), (8, .uniq), (9, .uniq)] (.ptr 3 0 0) ?hk ?_); (case hk => rfl); (conv => whnf); (repeat (refine And.intro ?_ ?_; exact sideT; (conv => whnf))); (fail_if_success (with_reducible first | refine And.intro (eqv_i ?_) ?_ | refine And.intro (ren_i ?_) ?_))))) <;> (conv => whnf))))
    all_goals as_aux_lemma =>
      refine ⟨(), trivial, ?_⟩
      (refine qConv.of hB [(1, 1), (2, 2), (3, 3)] [(0, 0), (4, 4), (5, 5), (6, 6), (7, 7), (8, 8), (9, 9)] [] (by rfl) ?_; focus ((conv => whnf); (repeat (refine And.intro ?_ ?_; rotate_left; (conv => whnf))); exact trivial; all_goals (try exact andT)))
      all_goals (try (first | rfl | (rw [← hacc2]; simp only [*, Bool.true_or, Bool.or_true, Bool.false_or, Bool.or_false, Bool.and_true, Bool.and_false, Bool.false_and, Bool.true_and]; done)))
      all_goals (try exact dt_AhTcpU_ROWR)
  rintro ⟨⟩ -
  refine qAWs.cut mixed 10 (by simp only [List.take_succ_cons, List.take_zero]; rfl) (by simp only [List.drop_succ_cons, List.drop_zero]; rfl) (by simp only [chain]; rfl) rfl (X := Unit) (fun _ => slotsOf 243 [(5, .ptr 1 0 0), (6, .val (.int .i64 m.len))]) (fun _ => rsH x2)
    (fun _ => z = (x2.ackLen m).pumpT.late) ?_ ?_
  · dsimp only [rsN, spL] at cK cS0 cC0 cR ⊢
    ((conv => whnf); (repeat' ((first | (with_reducible first | refine qif_n ?_ | refine qif_t ‹_› ?_ | refine qif_f ‹_› ?_) | ((with_reducible refine qif_t ?_ ?_); focus decide) | ((with_reducible refine qif_f ?_ ?_); focus decide) | (with_reducible refine And.intro (orderOk_i ?ho) ?_; (case ho => kernel_rfl)) | (with_reducible first | refine qif_i (fun _ => ?_) (fun _ => ?_) | refine frcVs_i ?_ | refine frcRs_i ?_) | ((with_reducible refine qCall.pure (refAdd_l _ _) ?_ ?_ ?_ ?_); rotate_left 4; exact trivial; exact plT; exact plT) | ((with_reducible refine qCall.pure (trefStart_l _) ?_ ?_ ?_ ?_); rotate_left 4; exact trivial; exact plT; exact plT) | (((with_reducible refine qCall.of (cK) [(1, 3)] [(0, 0), (2, 4), (3, 5), (4, 6), (5, 7), (6, 8), (7, 9)] [] [(8, 10), (9, 11), (10, 12)] [(3, rsO (rsN 12 5 6 7 10 11 x1)), (4, .dead), (8, .dead), (9, .dead), (10, .uniq), (11, .uniq), (12, .uniq)] (.val (.bool b)) ?hk ?_); (case hk => rfl); (conv => whnf); (repeat (refine And.intro ?_ ?_; exact sideT; (conv => whnf))); (fail_if_success (with_reducible first | refine And.intro (eqv_i ?_) ?_ | refine And.intro (ren_i ?_) ?_)))) | (((with_reducible refine qCall.of (cS0) [(1, 3)] [(0, 0), (2, 4), (3, 5), (4, 6), (5, 7), (6, 8), (7, 9)] [] [(8, 10), (9, 11)] [(3, rsO (rsN 4 5 6 7 10 11 (Stp.acks ⟨c, [], []⟩))), (8, .dead), (9, .dead), (10, .uniq), (11, .uniq)] (.tup []) ?hk ?_); (case hk => rfl); (conv => whnf); (repeat (refine And.intro ?_ ?_; exact sideT; (conv => whnf))); (fail_if_success (with_reducible first | refine And.intro (eqv_i ?_) ?_ | refine And.intro (ren_i ?_) ?_)))) | (((with_reducible refine qCall.of (cC0) [(1, 3)] [(0, 0), (2, 4), (3, 5), (4, 6), (5, 7), (6, 8), (7, 9)] [] [] [(3, rsO (rsN 4 5 6 7 8 9 (Stp.shut ⟨c, [], []⟩)))] (.tup []) ?hk ?_); (case hk => rfl); (conv => whnf); (repeat (refine And.intro ?_ ?_; exact sideT; (conv => whnf))); (fail_if_success (with_reducible first | refine And.intro (eqv_i ?_) ?_ | refine And.intro (ren_i ?_) ?_)))) | (((with_reducible refine qCall.of (cR) [] [(0, 0), (1, 5), (2, 6)] [] [(3, 13), (4, 14), (5, 15)] [(5, .dead), (6, .dead), (13, .uniq), (14, .uniq), (15, .uniq)] (.tup [.agg [.val (.int .i64 n'), .list 13 2 (ps'.map (prt 14))], bL 15 told]) ?hk ?_); (case hk => rfl); (conv => whnf); (repeat (refine And.intro ?_ ?_; exact sideT; (conv => whnf))); (fail_if_success (with_reducible first | refine And.intro (eqv_i ?_) ?_ | refine And.intro (ren_i ?_) ?_))))) <;> (conv => whnf))))
    all_goals as_aux_lemma =>
      (try simp only [bne, Bool.not_eq_true', Bool.not_eq_false', List.length_map] at *)
      (simp only [*, cond_true, cond_false] at hz)
      (try simp only [*, cond_true, cond_false, Bool.true_or, Bool.or_true, Bool.false_or, Bool.or_false, Bool.not_true, Bool.not_false] at hs2)
      first
        | (refine ⟨(), hz.symm, ?_⟩
           subst hs2
           first
             | ((refine qConv.of hB [(3, 1)] [(0, 0), (12, 2), (13, 3), (14, 4), (15, 5), (10, 6), (11, 7)] [] (by rfl) ?_; focus ((conv => whnf); (repeat (refine And.intro ?_ ?_; rotate_left; (conv => whnf))); exact trivial; all_goals (try exact andT))))
             | ((refine qConv.of hB [(3, 1)] [(0, 0), (12, 2), (5, 3), (6, 4), (7, 5), (10, 6), (11, 7)] [] (by rfl) ?_; focus ((conv => whnf); (repeat (refine And.intro ?_ ?_; rotate_left; (conv => whnf))); exact trivial; all_goals (try exact andT))))
           all_goals (try exact dt_AhTcpU_ROWR)
           done)
        | (subst hz
           first
             | ((refine qConv.of hB [(3, 1)] [(0, 0), (12, 2), (5, 3), (6, 4), (7, 5), (10, 6), (11, 7)] [] (by rfl) ?_; focus ((conv => whnf); (repeat (refine And.intro ?_ ?_; rotate_left; (conv => whnf))); exact trivial; all_goals (try exact andT))))
             | ((refine qConv.of hB [(3, 1)] [(0, 0), (4, 2), (5, 3), (6, 4), (7, 5), (10, 6), (11, 7)] [] (by rfl) ?_; focus ((conv => whnf); (repeat (refine And.intro ?_ ?_; rotate_left; (conv => whnf))); exact trivial; all_goals (try exact andT))))
             | ((refine qConv.of hB [(3, 1)] [(0, 0), (4, 2), (5, 3), (6, 4), (7, 5), (8, 6), (9, 7)] [] (by rfl) ?_; focus ((conv => whnf); (repeat (refine And.intro ?_ ?_; rotate_left; (conv => whnf))); exact trivial; all_goals (try exact andT))))
           all_goals (try exact dt_AhTcpU_ROWR)
           done)
  clear hz
  rintro ⟨⟩ hz
  clear hs2 cB cL cK cS0 cC0 cR
  refine qAWs.fin mixed (by simp only [chain]; rfl) ?_
  dsimp only [rsN, spL] at cS2 cP2 cP3 ⊢
  ((conv => whnf); (repeat' ((first | (with_reducible first | refine qif_n ?_ | refine qif_t ‹_› ?_ | refine qif_f ‹_› ?_) | ((with_reducible refine qif_t ?_ ?_); focus decide) | ((with_reducible refine qif_f ?_ ?_); focus decide) | (with_reducible refine And.intro (orderOk_i ?ho) ?_; (case ho => kernel_rfl)) | (with_reducible first | refine qif_i (fun _ => ?_) (fun _ => ?_) | refine frcVs_i ?_ | refine frcRs_i ?_) | ((with_reducible refine qCall.pure (trefStart_l _) ?_ ?_ ?_ ?_); rotate_left 4; exact trivial; exact plT; exact plT) | (refine qCall.rsent rfl ?_) | (((with_reducible refine qCall.of (cS2) [(1, 1)] [(0, 0), (2, 2), (3, 3), (4, 4), (5, 5), (6, 6), (7, 7)] [] [(8, 8), (9, 9)] [(1, rsO (rsN 2 3 4 5 8 9 x3)), (6, .dead), (7, .dead), (8, .uniq), (9, .uniq)] (.tup []) ?hk ?_); (case hk => rfl); (conv => whnf); (repeat (refine And.intro ?_ ?_; exact sideT; (conv => whnf))); (fail_if_success (with_reducible first | refine And.intro (eqv_i ?_) ?_ | refine And.intro (ren_i ?_) ?_)))) | (((with_reducible refine qCall.of ((cP2 (by simp only [*, Bool.true_or, Bool.or_true]))) [(1, 1)] [(0, 0), (2, 2), (3, 3), (4, 4), (5, 5), (6, 6), (7, 7)] [] [(8, 8), (9, 9)] [(1, rsO (rsN 2 3 4 5 8 9 x4)), (6, .dead), (7, .dead), (8, .uniq), (9, .uniq)] (.tup []) ?hk ?_); (case hk => rfl); (conv => whnf); (repeat (refine And.intro ?_ ?_; exact sideT; (conv => whnf))); (fail_if_success (with_reducible first | refine And.intro (eqv_i ?_) ?_ | refine And.intro (ren_i ?_) ?_)))) | (((with_reducible refine qCall.of ((cP3 (by simp only [*, Bool.true_or, Bool.or_true]))) [(1, 1)] [(0, 0), (2, 2), (3, 3), (4, 4), (5, 5), (6, 8), (7, 9)] [] [(8, 10), (9, 11)] [(1, rsO (rsN 2 3 4 5 10 11 x5)), (8, .dead), (9, .dead), (10, .uniq), (11, .uniq)] (.tup []) ?hk ?_); (case hk => rfl); (conv => whnf); (repeat (refine And.intro ?_ ?_; exact sideT; (conv => whnf))); (fail_if_success (with_reducible first | refine And.intro (eqv_i ?_) ?_ | refine And.intro (ren_i ?_) ?_))))) <;> (conv => whnf))))
  all_goals as_aux_lemma =>
    (try simp only [bne, Bool.not_eq_true', Bool.not_eq_false', List.length_map] at *)
    (simp only [Stp.ackLen, *, cond_true, cond_false] at hz)
    (simp only [Stp.pumpT, Cn.talks, *, cond_true, cond_false, Bool.true_or, Bool.or_true, Bool.false_or, Bool.or_false] at hz)
    (unfold Stp.late Cn.lateB Cn.sent at hz)
    (simp only [*, cond_true, cond_false, Bool.and_true, Bool.true_and, Bool.and_false, Bool.false_and, Bool.not_true, Bool.not_false] at hz)
    subst hz
    first
      | ((refine qConv.of hB [(1, 1)] [(0, 0), (2, 2), (3, 3), (4, 4), (5, 5), (8, 6), (9, 7)] [] (by rfl) ?_; focus ((conv => whnf); (repeat (refine And.intro ?_ ?_; rotate_left; (conv => whnf))); exact trivial; all_goals (try exact andT))))
      | ((refine qConv.of hB [(1, 1)] [(0, 0), (2, 2), (3, 3), (4, 4), (5, 5), (10, 6), (11, 7)] [] (by rfl) ?_; focus ((conv => whnf); (repeat (refine And.intro ?_ ?_; rotate_left; (conv => whnf))); exact trivial; all_goals (try exact andT))))
      | ((refine qConv.of hB [(1, 1)] [(0, 0), (2, 2), (3, 3), (4, 4), (5, 5), (6, 6), (7, 7)] [] (by rfl) ?_; focus ((conv => whnf); (repeat (refine And.intro ?_ ?_; rotate_left; (conv => whnf))); exact trivial; all_goals (try exact andT))))
    all_goals (try exact dt_AhTcpU_ROWR)
end Go.Proofs.YtoknaaoioglapaaGreat

/- The page's connection sends again, in a tick: on data. Conditions: lengths. -/
namespace Go.Proofs.YtoknaaoioglapaaGreat
open Go.RowKit
set_option linter.unusedVariables false
set_option linter.unusedSimpArgs false
set_option maxRecDepth 100000
set_option maxHeartbeats 4000000
theorem dt_AhTcpX_ROWR {p : Prop} (h : p := by first | ((first | rfl | (refine RowsRen.one ?_; (repeat (refine Cells.cons ?_ ?_; focus (first | exact .val _ | exact Ren.ll rfl _ | exact Ren.gg rfl _ | exact Ren.g2 rfl _ | exact Ren.vnil _ _ | exact Ren.vgnil _ _ | exact Ren.sll rfl rfl _ | exact Ren.sllN rfl rfl rfl rfl | exact Ren.sll1 rfl rfl rfl rfl | exact Ren.pll rfl rfl _ | fail))); exact Cells.nil) | exact segs_ll rfl _ | exact parts_ll rfl _ | exact bytes_cells _); done) | fail) : p := h
theorem rseg0_l (x : Stp) (seq fl : Int) (data : List Int) (hd : data.length ≤ 100000000) (hs : x.out.length ≤ 100000000) :
    ACallL Tryz.prog 69 [.ptr 1 0 0, .val (.int .i64 seq), .val (.int .i64 fl), bL 0 data] [.perm, rsO (rsN 2 3 4 5 6 7 x), .perm, .perm, .perm, .perm, .uniq, .uniq]
      (.tup []) [.perm, rsO (rsN 2 3 4 5 8 9 (x.seg seq fl data)), .perm, .perm, .perm, .perm, .dead, .dead, .uniq, .uniq] := by
  dsimp only [rsN, spL, Stp.seg] at hs ⊢
  refine ACallL.of_ev mixed Tryz.func69 rfl (fun a w => Tryz.call69 a w) (congrArg Array.toList Tryz.results69) Tryz.ntmps69 fun B hB => ?_
  ((conv => whnf); (repeat' ((first | (with_reducible first | refine qif_n ?_ | refine qif_t ‹_› ?_ | refine qif_f ‹_› ?_) | ((with_reducible refine qif_t ?_ ?_); focus decide) | ((with_reducible refine qif_f ?_ ?_); focus decide) | (with_reducible refine And.intro (orderOk_i ?ho) ?_; (case ho => kernel_rfl)) | (with_reducible first | refine qif_i (fun _ => ?_) (fun _ => ?_) | refine frcVs_i ?_ | refine frcRs_i ?_)) <;> (conv => whnf))))
  ((with_reducible refine qCall.fresh (fun r => gL r data) (copyBytes_l data hd) [(0, 0)] [] ?hk ?_); (case hk => rfl); (conv => whnf); (repeat (refine And.intro ?_ ?_; exact sideT; (conv => whnf))); (fail_if_success (with_reducible first | refine And.intro (eqv_i ?_) ?_ | refine And.intro (ren_i ?_) ?_)))
  ((conv => whnf); (repeat' ((first | (with_reducible first | refine qif_n ?_ | refine qif_t ‹_› ?_ | refine qif_f ‹_› ?_) | ((with_reducible refine qif_t ?_ ?_); focus decide) | ((with_reducible refine qif_f ?_ ?_); focus decide) | (with_reducible refine And.intro (orderOk_i ?ho) ?_; (case ho => kernel_rfl)) | (with_reducible first | refine qif_i (fun _ => ?_) (fun _ => ?_) | refine frcVs_i ?_ | refine frcRs_i ?_) | (refine qCase_i (apG (nb := 72) rfl rfl rfl rfl rfl rfl rfl rfl rfl rfl (by decide) rfl (by simp; omega)) ?_)) <;> (conv => whnf))))
  (refine qConv.of hB [(1, 1)] [(0, 0), (2, 2), (3, 3), (4, 4), (5, 5), (10, 8), (7, 9), (8, 9)] [] (by rfl) ?_; focus ((conv => whnf); (repeat (refine And.intro ?_ ?_; rotate_left; (conv => whnf))); exact trivial; all_goals (try exact andT)))
  all_goals (try exact dt_AhTcpX_ROWR)
abbrev rsS (o p d t s e : Nat) (c : Cn) : List AV := spL (bL o c.out) (.list p 2 (c.parts.map (prt d))) (.glist s 7 (([] : List Sg).map (sgR e))) (bL t []) c
theorem rAgain_l (c : Cn) (h : cnB c = true) (hr : tmRings c.tm = true) (h8 : (c.st == 8) = false) (h88 : (c.tm.tries == 8) = false) :
    ACallL Tryz.prog 38 [.agg (cnR 0 c)] [.perm] (.ptr 1 0 0) (rsH ({ c with tm := tmBack (tmBeat c.tm) } : Cn).start.again) := by
  have px := pl_bytes c.out
  have py := pl_parts c.parts
  have hI := (cnB_iff c).1 h
  have cB := begin_l c hI.cnLen
  obtain ⟨ht1, ht2, ht3, ht4⟩ := tmB_t hI.tm
  have cT := trefTick_l c.tm ht1
  have hl1 : 0 ≤ (tmBeat c.tm).left ∧ (tmBeat c.tm).left ≤ 48 ∧ (c.tm.on = true ∨ (tmBeat c.tm).left = 0) := by
    show 0 ≤ (if c.tm.on = true then max (c.tm.left - 1) 0 else c.tm.left) ∧ (if c.tm.on = true then max (c.tm.left - 1) 0 else c.tm.left) ≤ 48 ∧ (c.tm.on = true ∨ (if c.tm.on = true then max (c.tm.left - 1) 0 else c.tm.left) = 0)
    by_cases hon : c.tm.on = true
    · rw [if_pos hon]; exact ⟨by omega, by omega, .inl hon⟩
    · rw [if_neg hon]; exact ⟨by omega, by omega, .inr (ht4.resolve_left hon)⟩
  have hB1 : tmB (tmBeat c.tm) = true := by
    unfold tmB
    rw [Bool.and_eq_true, decide_eq_true_eq, Bool.or_eq_true, beq_iff_eq]
    exact ⟨⟨hl1.1, hl1.2.1, ht2.1, ht2.2, ht3.1, ht3.2⟩, hl1.2.2⟩
  have htt : (tmBeat c.tm).tries = c.tm.tries := rfl
  obtain ⟨t1, hb⟩ : ∃ r, tmBeat c.tm = r := ⟨_, rfl⟩
  rw [hb] at cT hB1 htt ⊢
  rw [hr] at cT
  have cK := trefBack_l t1 hB1
  have e8 : ¬ t1.tries = 8 := by rw [htt]; simpa using h88
  rw [if_neg e8, if_neg e8] at cK
  obtain ⟨t2, hb2⟩ : ∃ r, tmBack t1 = r := ⟨_, rfl⟩
  rw [hb2] at cK ⊢
  have hlen := hI.len
  have lo : (c.out.map bR).length = c.out.length := by simp
  obtain ⟨z, hz⟩ : ∃ z, (({ c with tm := t2 } : Cn)).start.again = z := ⟨_, rfl⟩
  rw [hz]
  unfold Stp.again Cn.sent Cn.len Cn.start at hz
  dsimp only at hz
  unfold Cn.start at cB
  clear hb hb2 hB1 h88 hr hl1 ht1 ht2 ht3 ht4 htt e8
  cases h1 : (c.st == 1) with
  | true =>
    have cS := rseg_l (⟨({ c with tm := t2 } : Cn), [], []⟩ : Stp) c.una 18 [] (by simp) (by simp)
    rw [h1, cond_true] at hz
    subst hz
    dsimp only [cnR, cnL, rsN, spL, tmC] at cB cT cK cS ⊢
    refine ACallL.of_ev mixed Tryz.func38 rfl (fun a w => Tryz.call38 a w) (congrArg Array.toList Tryz.results38) Tryz.ntmps38 fun B hB => ?_
    ((conv => whnf); (repeat' ((first | (with_reducible first | refine qif_n ?_ | refine qif_t ‹_› ?_ | refine qif_f ‹_› ?_) | ((with_reducible refine qif_t ?_ ?_); focus decide) | ((with_reducible refine qif_f ?_ ?_); focus decide) | (with_reducible refine And.intro (orderOk_i ?ho) ?_; (case ho => kernel_rfl)) | (with_reducible first | refine qif_i (fun _ => ?_) (fun _ => ?_) | refine frcVs_i ?_ | refine frcRs_i ?_) | ((with_reducible refine qCall.pure (cT) ?_ ?_ ?_ ?_); rotate_left 4; exact trivial; exact plT; exact plT) | ((with_reducible refine qCall.pure (cK) ?_ ?_ ?_ ?_); rotate_left 4; exact trivial; exact plT; exact plT) | (((with_reducible refine qCall.of (cB) [] [(0, 0)] [] [(1, 2), (2, 3), (3, 4), (4, 5), (5, 6), (6, 7), (7, 8)] [(2, rsO (rsS 3 4 5 6 7 8 c)), (3, .uniq), (4, .uniq), (5, .uniq), (6, .uniq), (7, .uniq), (8, .uniq)] (.ptr 2 0 0) ?hk ?_); (case hk => rfl); (conv => whnf); (repeat (refine And.intro ?_ ?_; exact sideT; (conv => whnf))); (fail_if_success (with_reducible first | refine And.intro (eqv_i ?_) ?_ | refine And.intro (ren_i ?_) ?_)))) | (refine qCall.rsent rfl ?_) | (((with_reducible refine qCall.of (cS) [(1, 2)] [(0, 0), (2, 3), (3, 4), (4, 5), (5, 6), (6, 7), (7, 8)] [] [(8, 10), (9, 11)] [(2, rsO (rsN 3 4 5 6 10 11 (Stp.seg ⟨({ c with tm := t2 } : Cn), [], []⟩ c.una 18 []))), (7, .dead), (8, .dead), (10, .uniq), (11, .uniq)] (.tup []) ?hk ?_); (case hk => rfl); (conv => whnf); (repeat (refine And.intro ?_ ?_; exact sideT; (conv => whnf))); (fail_if_success (with_reducible first | refine And.intro (eqv_i ?_) ?_ | refine And.intro (ren_i ?_) ?_))))) <;> (conv => whnf))))
    all_goals ((refine qConv.of hB [(2, 1)] [(0, 0), (3, 2), (4, 3), (5, 4), (6, 5), (10, 6), (11, 7)] [] (by rfl) ?_; focus ((conv => whnf); (repeat (refine And.intro ?_ ?_; rotate_left; (conv => whnf))); exact trivial; all_goals (try exact andT))))
    all_goals (try exact dt_AhTcpX_ROWR)
  | false =>
    rw [h1, cond_false] at hz
    by_cases hn : 0 < wdiff c.nx c.una
    · have hn' : decide (0 < wdiff c.nx c.una) = true := by simpa using hn
      by_cases hl : 0 < c.out.length
      · have hk : decide (0 < min 536 (min (wdiff c.nx c.una) ((c.out.map bR).length : Int))) = true := by rw [lo, decide_eq_true_eq]; omega
        have hle' : decide (0 < (c.out.length : Int)) = true := by rw [decide_eq_true_eq]; omega
        obtain ⟨data, hda⟩ : ∃ d, c.out.take (min (min (wdiff c.nx c.una) c.out.length) 536).toNat = d := ⟨_, rfl⟩
        have hcb : 0 ≤ (none : Option Int).getD 0 ∧ (none : Option Int).getD 0 ≤ (some (min 536 (min (wdiff c.nx c.una) ((c.out.map bR).length : Int)))).getD ((c.out.map bR).length : Int) ∧ (some (min 536 (min (wdiff c.nx c.una) ((c.out.map bR).length : Int)))).getD ((c.out.map bR).length : Int) ≤ (none : Option Int).getD ((c.out.map bR).length : Int) ∧ (none : Option Int).getD ((c.out.map bR).length : Int) ≤ ((c.out.map bR).length : Int) ∧ ((none : Option Int) = none ∨ (some (min 536 (min (wdiff c.nx c.una) ((c.out.map bR).length : Int)))) ≠ none) := by
          simp only [Option.getD_some, Option.getD_none]
          exact ⟨by omega, by omega, by omega, by omega, .inl trivial⟩
        have hsl : ((c.out.map bR).drop ((none : Option Int).getD 0).toNat).take ((some (min 536 (min (wdiff c.nx c.una) ((c.out.map bR).length : Int)))).getD ((c.out.map bR).length : Int) - (none : Option Int).getD 0).toNat = data.map bR := by
          simp only [Option.getD_some, Option.getD_none]
          rw [← hda, List.map_take, lo, Int.toNat_zero, List.drop_zero]
          congr 1
          omega
        have cS := rseg0_l (⟨({ c with tm := t2 } : Cn), [], []⟩ : Stp) c.una 24 data (by rw [← hda]; simp; omega) (by simp)
        rw [hn', hle', hda, Bool.and_true, cond_true] at hz
        subst hz
        dsimp only [cnR, cnL, rsN, spL, tmC] at cB cT cK cS ⊢
        refine ACallL.of_ev mixed Tryz.func38 rfl (fun a w => Tryz.call38 a w) (congrArg Array.toList Tryz.results38) Tryz.ntmps38 fun B hB => ?_
        ((conv => whnf); (repeat' ((first | (with_reducible first | refine qif_n ?_ | refine qif_t ‹_› ?_ | refine qif_f ‹_› ?_) | ((with_reducible refine qif_t ?_ ?_); focus decide) | ((with_reducible refine qif_f ?_ ?_); focus decide) | (with_reducible refine And.intro (orderOk_i ?ho) ?_; (case ho => kernel_rfl)) | (with_reducible first | refine qif_i (fun _ => ?_) (fun _ => ?_) | refine frcVs_i ?_ | refine frcRs_i ?_) | ((with_reducible refine qCall.pure (cT) ?_ ?_ ?_ ?_); rotate_left 4; exact trivial; exact plT; exact plT) | ((with_reducible refine qCall.pure (cK) ?_ ?_ ?_ ?_); rotate_left 4; exact trivial; exact plT; exact plT) | (((with_reducible refine qCall.of (cB) [] [(0, 0)] [] [(1, 2), (2, 3), (3, 4), (4, 5), (5, 6), (6, 7), (7, 8)] [(2, rsO (rsS 3 4 5 6 7 8 c)), (3, .uniq), (4, .uniq), (5, .uniq), (6, .uniq), (7, .uniq), (8, .uniq)] (.ptr 2 0 0) ?hk ?_); (case hk => rfl); (conv => whnf); (repeat (refine And.intro ?_ ?_; exact sideT; (conv => whnf))); (fail_if_success (with_reducible first | refine And.intro (eqv_i ?_) ?_ | refine And.intro (ren_i ?_) ?_)))) | (refine qCall.rsent rfl ?_) | (refine qCase_i (slL' rfl rfl rfl rfl rfl rfl rfl rfl hcb hsl) ?_) | (((with_reducible refine qCall.of (cS) [(1, 2)] [(0, 0), (2, 3), (3, 4), (4, 5), (5, 6), (6, 7), (7, 8)] [] [(8, 10), (9, 11)] [(2, rsO (rsN 3 4 5 6 10 11 (Stp.seg ⟨({ c with tm := t2 } : Cn), [], []⟩ c.una 24 data))), (7, .dead), (8, .dead), (10, .uniq), (11, .uniq)] (.tup []) ?hk ?_); (case hk => rfl); (conv => whnf); (repeat (refine And.intro ?_ ?_; exact sideT; (conv => whnf))); (fail_if_success (with_reducible first | refine And.intro (eqv_i ?_) ?_ | refine And.intro (ren_i ?_) ?_))))) <;> (conv => whnf))))
        all_goals ((refine qConv.of hB [(2, 1)] [(0, 0), (3, 2), (4, 3), (5, 4), (6, 5), (10, 6), (11, 7)] [] (by rfl) ?_; focus ((conv => whnf); (repeat (refine And.intro ?_ ?_; rotate_left; (conv => whnf))); exact trivial; all_goals (try exact andT))))
        all_goals (try exact dt_AhTcpX_ROWR)
      · have hk : decide (0 < min 536 (min (wdiff c.nx c.una) ((c.out.map bR).length : Int))) = false := by rw [lo, decide_eq_false_iff_not]; omega
        have hle' : decide (0 < (c.out.length : Int)) = false := by rw [decide_eq_false_iff_not]; omega
        have cS := rseg_l (⟨({ c with tm := t2 } : Cn), [], []⟩ : Stp) c.una 17 [] (by simp) (by simp)
        rw [hn', hle', Bool.and_false, cond_false, cond_true] at hz
        subst hz
        dsimp only [cnR, cnL, rsN, spL, tmC] at cB cT cK cS ⊢
        refine ACallL.of_ev mixed Tryz.func38 rfl (fun a w => Tryz.call38 a w) (congrArg Array.toList Tryz.results38) Tryz.ntmps38 fun B hB => ?_
        ((conv => whnf); (repeat' ((first | (with_reducible first | refine qif_n ?_ | refine qif_t ‹_› ?_ | refine qif_f ‹_› ?_) | ((with_reducible refine qif_t ?_ ?_); focus decide) | ((with_reducible refine qif_f ?_ ?_); focus decide) | (with_reducible refine And.intro (orderOk_i ?ho) ?_; (case ho => kernel_rfl)) | (with_reducible first | refine qif_i (fun _ => ?_) (fun _ => ?_) | refine frcVs_i ?_ | refine frcRs_i ?_) | ((with_reducible refine qCall.pure (cT) ?_ ?_ ?_ ?_); rotate_left 4; exact trivial; exact plT; exact plT) | ((with_reducible refine qCall.pure (cK) ?_ ?_ ?_ ?_); rotate_left 4; exact trivial; exact plT; exact plT) | (((with_reducible refine qCall.of (cB) [] [(0, 0)] [] [(1, 2), (2, 3), (3, 4), (4, 5), (5, 6), (6, 7), (7, 8)] [(2, rsO (rsS 3 4 5 6 7 8 c)), (3, .uniq), (4, .uniq), (5, .uniq), (6, .uniq), (7, .uniq), (8, .uniq)] (.ptr 2 0 0) ?hk ?_); (case hk => rfl); (conv => whnf); (repeat (refine And.intro ?_ ?_; exact sideT; (conv => whnf))); (fail_if_success (with_reducible first | refine And.intro (eqv_i ?_) ?_ | refine And.intro (ren_i ?_) ?_)))) | (refine qCall.rsent rfl ?_) | (((with_reducible refine qCall.of (cS) [(1, 2)] [(0, 0), (2, 3), (3, 4), (4, 5), (5, 6), (6, 7), (7, 8)] [] [(8, 10), (9, 11)] [(2, rsO (rsN 3 4 5 6 10 11 (Stp.seg ⟨({ c with tm := t2 } : Cn), [], []⟩ c.una 17 []))), (7, .dead), (8, .dead), (10, .uniq), (11, .uniq)] (.tup []) ?hk ?_); (case hk => rfl); (conv => whnf); (repeat (refine And.intro ?_ ?_; exact sideT; (conv => whnf))); (fail_if_success (with_reducible first | refine And.intro (eqv_i ?_) ?_ | refine And.intro (ren_i ?_) ?_))))) <;> (conv => whnf))))
        all_goals ((refine qConv.of hB [(2, 1)] [(0, 0), (3, 2), (4, 3), (5, 4), (6, 5), (10, 6), (11, 7)] [] (by rfl) ?_; focus ((conv => whnf); (repeat (refine And.intro ?_ ?_; rotate_left; (conv => whnf))); exact trivial; all_goals (try exact andT))))
        all_goals (try exact dt_AhTcpX_ROWR)
    · have hn' : decide (0 < wdiff c.nx c.una) = false := by simpa using hn
      by_cases hl : 0 < c.out.length
      · have hle' : decide (0 < (c.out.length : Int)) = true := by rw [decide_eq_true_eq]; omega
        have hle2 : decide (0 < ((c.out.map bR).length : Int)) = true := by rw [lo]; exact hle'
        obtain ⟨d1, hd1⟩ : ∃ d, c.out.take 1 = d := ⟨_, rfl⟩
        have hcb1 : 0 ≤ (none : Option Int).getD 0 ∧ (none : Option Int).getD 0 ≤ (some (1 : Int)).getD ((c.out.map bR).length : Int) ∧ (some (1 : Int)).getD ((c.out.map bR).length : Int) ≤ (none : Option Int).getD ((c.out.map bR).length : Int) ∧ (none : Option Int).getD ((c.out.map bR).length : Int) ≤ ((c.out.map bR).length : Int) ∧ ((none : Option Int) = none ∨ (some (1 : Int)) ≠ none) := by
          simp only [Option.getD_some, Option.getD_none]
          exact ⟨by omega, by omega, by omega, by omega, .inl trivial⟩
        have hsl1 : ((c.out.map bR).drop ((none : Option Int).getD 0).toNat).take ((some (1 : Int)).getD ((c.out.map bR).length : Int) - (none : Option Int).getD 0).toNat = d1.map bR := by
          simp only [Option.getD_some, Option.getD_none]
          rw [← hd1, List.map_take]; simp
        have cS := rseg0_l (⟨({ c with tm := t2 } : Cn), [], []⟩ : Stp) c.nx 24 d1 (by rw [← hd1]; simp; omega) (by simp)
        rw [hn', hle', Bool.false_and, cond_false, cond_false, cond_true, hd1] at hz
        subst hz
        dsimp only [cnR, cnL, rsN, spL, tmC] at cB cT cK cS ⊢
        refine ACallL.of_ev mixed Tryz.func38 rfl (fun a w => Tryz.call38 a w) (congrArg Array.toList Tryz.results38) Tryz.ntmps38 fun B hB => ?_
        ((conv => whnf); (repeat' ((first | (with_reducible first | refine qif_n ?_ | refine qif_t ‹_› ?_ | refine qif_f ‹_› ?_) | ((with_reducible refine qif_t ?_ ?_); focus decide) | ((with_reducible refine qif_f ?_ ?_); focus decide) | (with_reducible refine And.intro (orderOk_i ?ho) ?_; (case ho => kernel_rfl)) | (with_reducible first | refine qif_i (fun _ => ?_) (fun _ => ?_) | refine frcVs_i ?_ | refine frcRs_i ?_) | ((with_reducible refine qCall.pure (cT) ?_ ?_ ?_ ?_); rotate_left 4; exact trivial; exact plT; exact plT) | ((with_reducible refine qCall.pure (cK) ?_ ?_ ?_ ?_); rotate_left 4; exact trivial; exact plT; exact plT) | (((with_reducible refine qCall.of (cB) [] [(0, 0)] [] [(1, 2), (2, 3), (3, 4), (4, 5), (5, 6), (6, 7), (7, 8)] [(2, rsO (rsS 3 4 5 6 7 8 c)), (3, .uniq), (4, .uniq), (5, .uniq), (6, .uniq), (7, .uniq), (8, .uniq)] (.ptr 2 0 0) ?hk ?_); (case hk => rfl); (conv => whnf); (repeat (refine And.intro ?_ ?_; exact sideT; (conv => whnf))); (fail_if_success (with_reducible first | refine And.intro (eqv_i ?_) ?_ | refine And.intro (ren_i ?_) ?_)))) | ((with_reducible refine qCall.pure (refAdd_l _ _) ?_ ?_ ?_ ?_); rotate_left 4; exact trivial; exact plT; exact plT) | (refine qCall.rsent rfl ?_) | (refine qCase_i (slL' rfl rfl rfl rfl rfl rfl rfl rfl hcb1 hsl1) ?_) | (((with_reducible refine qCall.of (cS) [(1, 2)] [(0, 0), (2, 3), (3, 4), (4, 5), (5, 6), (6, 7), (7, 8)] [] [(8, 10), (9, 11)] [(2, rsO (rsN 3 4 5 6 10 11 (Stp.seg ⟨({ c with tm := t2 } : Cn), [], []⟩ c.nx 24 d1))), (7, .dead), (8, .dead), (10, .uniq), (11, .uniq)] (.tup []) ?hk ?_); (case hk => rfl); (conv => whnf); (repeat (refine And.intro ?_ ?_; exact sideT; (conv => whnf))); (fail_if_success (with_reducible first | refine And.intro (eqv_i ?_) ?_ | refine And.intro (ren_i ?_) ?_))))) <;> (conv => whnf))))
        all_goals ((refine qConv.of hB [(2, 1)] [(0, 0), (3, 2), (4, 3), (5, 4), (6, 5), (10, 6), (11, 7)] [] (by rfl) ?_; focus ((conv => whnf); (repeat (refine And.intro ?_ ?_; rotate_left; (conv => whnf))); exact trivial; all_goals (try exact andT))))
        all_goals (try exact dt_AhTcpX_ROWR)
      · have hle' : decide (0 < (c.out.length : Int)) = false := by rw [decide_eq_false_iff_not]; omega
        have hle2 : decide (0 < ((c.out.map bR).length : Int)) = false := by rw [lo]; exact hle'
        rw [hn', hle', Bool.false_and, cond_false, cond_false, cond_false] at hz
        subst hz
        dsimp only [cnR, cnL, rsN, spL, tmC] at cB cT cK ⊢
        refine ACallL.of_ev mixed Tryz.func38 rfl (fun a w => Tryz.call38 a w) (congrArg Array.toList Tryz.results38) Tryz.ntmps38 fun B hB => ?_
        ((conv => whnf); (repeat' ((first | (with_reducible first | refine qif_n ?_ | refine qif_t ‹_› ?_ | refine qif_f ‹_› ?_) | ((with_reducible refine qif_t ?_ ?_); focus decide) | ((with_reducible refine qif_f ?_ ?_); focus decide) | (with_reducible refine And.intro (orderOk_i ?ho) ?_; (case ho => kernel_rfl)) | (with_reducible first | refine qif_i (fun _ => ?_) (fun _ => ?_) | refine frcVs_i ?_ | refine frcRs_i ?_) | ((with_reducible refine qCall.pure (cT) ?_ ?_ ?_ ?_); rotate_left 4; exact trivial; exact plT; exact plT) | ((with_reducible refine qCall.pure (cK) ?_ ?_ ?_ ?_); rotate_left 4; exact trivial; exact plT; exact plT) | (((with_reducible refine qCall.of (cB) [] [(0, 0)] [] [(1, 2), (2, 3), (3, 4), (4, 5), (5, 6), (6, 7), (7, 8)] [(2, rsO (rsS 3 4 5 6 7 8 c)), (3, .uniq), (4, .uniq), (5, .uniq), (6, .uniq), (7, .uniq), (8, .uniq)] (.ptr 2 0 0) ?hk ?_); (case hk => rfl); (conv => whnf); (repeat (refine And.intro ?_ ?_; exact sideT; (conv => whnf))); (fail_if_success (with_reducible first | refine And.intro (eqv_i ?_) ?_ | refine And.intro (ren_i ?_) ?_)))) | (refine qCall.rsent rfl ?_)) <;> (conv => whnf))))
        all_goals ((refine qConv.of hB [(2, 1)] [(0, 0), (3, 2), (4, 3), (5, 4), (6, 5), (7, 6), (8, 7)] [] (by rfl) ?_; focus ((conv => whnf); (repeat (refine And.intro ?_ ?_; rotate_left; (conv => whnf))); exact trivial; all_goals (try exact andT))))
        all_goals (try exact dt_AhTcpX_ROWR)
end Go.Proofs.YtoknaaoioglapaaGreat

/- The page's connection is opened, goes on by a tick: on data. Conditions: lengths. -/
namespace Go.Proofs.YtoknaaoioglapaaGreat
open Go.RowKit
set_option linter.unusedVariables false
set_option linter.unusedSimpArgs false
set_option maxRecDepth 100000
set_option maxHeartbeats 4000000
theorem dt_AhTcpW_ROWR {p : Prop} (h : p := by first | ((first | rfl | (refine RowsRen.one ?_; (repeat (refine Cells.cons ?_ ?_; focus (first | exact .val _ | exact Ren.ll rfl _ | exact Ren.gg rfl _ | exact Ren.g2 rfl _ | exact Ren.vnil _ _ | exact Ren.vgnil _ _ | exact Ren.sll rfl rfl _ | exact Ren.sllN rfl rfl rfl rfl | exact Ren.sll1 rfl rfl rfl rfl | exact Ren.pll rfl rfl _ | fail))); exact Cells.nil) | exact segs_ll rfl _ | exact parts_ll rfl _ | exact bytes_cells _); done) | fail) : p := h
theorem Ren.fzL {L I F : Prs} {h : Hp} {b r d d' : Nat} {e : TypeId} {m : Sg} (h0 : F.has b r = true) (hb : h b = .live ⟨7, e, [sgG d m]⟩) (h1 : I.has d d' = true) : Ren (qOf L I F) h (.sl b 0 1) (.glist r 7 ([m].map (sgR d'))) := by
  obtain ⟨x, y, z⟩ := segs_gl (L := L) (I := I) (F := F) (h := h) h1 [m]
  exact .frzg _ _ _ _ _ _ ((Prs.has_iff F b r).1 h0) hb x y z
theorem rsegO_l (c : Cn) (seq fl : Int) : ACallL Tryz.prog 69 [.ptr 1 0 0, .val (.int .i64 seq), .val (.int .i64 fl), .val (.slice none 0 0)] [.perm, rsO (spL (.val (.slice none 0 0)) (.val (.slice none 0 0)) (.val (.slice none 0 0)) (.val (.slice none 0 0)) c)]
    (.tup []) [.perm, rsO (spL (.val (.slice none 0 0)) (.val (.slice none 0 0)) (.glist 2 7 ([(⟨c.port, c.pp, seq, c.inx, fl, 2048, []⟩ : Sg)].map (sgR 3))) (.val (.slice none 0 0)) c), .uniq, .uniq] := by
  have cC := copyBytes_l [] (by decide)
  dsimp only [spL]
  refine ACallL.of_ev mixed Tryz.func69 rfl (fun a w => Tryz.call69 a w) (congrArg Array.toList Tryz.results69) Tryz.ntmps69 fun B hB => ?_
  ((conv => whnf); (repeat' ((first | (with_reducible first | refine qif_n ?_ | refine qif_t ‹_› ?_ | refine qif_f ‹_› ?_) | ((with_reducible refine qif_t ?_ ?_); focus decide) | ((with_reducible refine qif_f ?_ ?_); focus decide) | (with_reducible refine And.intro (orderOk_i ?ho) ?_; (case ho => kernel_rfl)) | (with_reducible first | refine qif_i (fun _ => ?_) (fun _ => ?_) | refine frcVs_i ?_ | refine frcRs_i ?_)) <;> (conv => whnf))))
  ((with_reducible refine qCall.fresh (fun r => gL r []) (cC) [(0, 0)] [] ?hk ?_); (case hk => rfl); (conv => whnf); (repeat (refine And.intro ?_ ?_; exact sideT; (conv => whnf))); (fail_if_success (with_reducible first | refine And.intro (eqv_i ?_) ?_ | refine And.intro (ren_i ?_) ?_)))
  ((conv => whnf); (repeat' ((first | (with_reducible first | refine qif_n ?_ | refine qif_t ‹_› ?_ | refine qif_f ‹_› ?_) | ((with_reducible refine qif_t ?_ ?_); focus decide) | ((with_reducible refine qif_f ?_ ?_); focus decide) | (with_reducible refine And.intro (orderOk_i ?ho) ?_; (case ho => kernel_rfl)) | (with_reducible first | refine qif_i (fun _ => ?_) (fun _ => ?_) | refine frcVs_i ?_ | refine frcRs_i ?_)) <;> (conv => whnf))))
  (refine qConv.of hB [(1, 1)] [(0, 0), (2, 3)] [(4, 2)] (by rfl) ?_; focus ((conv => whnf); (repeat (refine And.intro ?_ ?_; rotate_left; (conv => whnf))); exact trivial; all_goals (try exact andT)))
  all_goals (try (refine RowsRen.one ?_; (repeat (refine Cells.cons ?_ ?_; focus (first | exact .val _ | exact Ren.fzL rfl rfl rfl | fail))); exact Cells.nil))
theorem rOpen_l (link ip iss : Int) (m : Sg) : ACallL Tryz.prog 41 [.val (.int .i64 link), .val (.int .i64 ip), .val (.int .i64 iss), .agg (sgR 0 m)] [.perm] (.ptr 1 0 0) (rsH (opens link ip iss m)) := by
  have pz := pl_bytes m.data
  unfold opens Stp.seg Cn.start
  obtain ⟨c, hc⟩ : ∃ c : Cn, c = (⟨link, ip, m.sp, m.dp, 1, iss, wadd iss 1, m.win, [], wadd m.seq 1, [], false, tmNew 3⟩ : Cn) := ⟨_, rfl⟩
  have cW := rsegO_l c iss 18
  subst hc
  dsimp only [sgR, sgL, spL, rsN, tmNew] at cW ⊢
  refine ACallL.of_ev mixed Tryz.func41 rfl (fun a w => Tryz.call41 a w) (congrArg Array.toList Tryz.results41) Tryz.ntmps41 fun B hB => ?_
  ((conv => whnf); (repeat' ((first | (with_reducible first | refine qif_n ?_ | refine qif_t ‹_› ?_ | refine qif_f ‹_› ?_) | ((with_reducible refine qif_t ?_ ?_); focus decide) | ((with_reducible refine qif_f ?_ ?_); focus decide) | (with_reducible refine And.intro (orderOk_i ?ho) ?_; (case ho => kernel_rfl)) | (with_reducible first | refine qif_i (fun _ => ?_) (fun _ => ?_) | refine frcVs_i ?_ | refine frcRs_i ?_) | ((with_reducible refine qCall.pure (refAdd_l _ _) ?_ ?_ ?_ ?_); rotate_left 4; exact trivial; exact plT; exact plT) | ((with_reducible refine qCall.pure (trefStart_l _) ?_ ?_ ?_ ?_); rotate_left 4; exact trivial; exact plT; exact plT)) <;> (conv => whnf))))
  ((with_reducible refine qCall.of (cW) [(1, 2)] [(0, 0)] [] [(2, 3), (3, 4)] [(2, rsO (spL (.val (.slice none 0 0)) (.val (.slice none 0 0)) (.glist 3 7 ([(⟨m.dp, m.sp, iss, wadd m.seq 1, 18, 2048, []⟩ : Sg)].map (sgR 4))) (.val (.slice none 0 0)) (⟨link, ip, m.sp, m.dp, 1, iss, wadd iss 1, m.win, [], wadd m.seq 1, [], false, tmNew 3⟩ : Cn))), (3, .uniq), (4, .uniq)] (.tup []) ?hk ?_); (case hk => rfl); (conv => whnf); (repeat (refine And.intro ?_ ?_; exact sideT; (conv => whnf))); (fail_if_success (with_reducible first | refine And.intro (eqv_i ?_) ?_ | refine And.intro (ren_i ?_) ?_)))
  ((conv => whnf); (repeat' ((first | (with_reducible first | refine qif_n ?_ | refine qif_t ‹_› ?_ | refine qif_f ‹_› ?_) | ((with_reducible refine qif_t ?_ ?_); focus decide) | ((with_reducible refine qif_f ?_ ?_); focus decide) | (with_reducible refine And.intro (orderOk_i ?ho) ?_; (case ho => kernel_rfl)) | (with_reducible first | refine qif_i (fun _ => ?_) (fun _ => ?_) | refine frcVs_i ?_ | refine frcRs_i ?_)) <;> (conv => whnf))))
  (refine qConv.of hB [(2, 1)] [(0, 0), (3, 6), (4, 7)] [] (by rfl) ?_; focus ((conv => whnf); (repeat (refine And.intro ?_ ?_; rotate_left; (conv => whnf))); exact trivial; all_goals (try exact andT)))
  all_goals (try exact dt_AhTcpW_ROWR)
theorem rTick_l (c : Cn) (h : cnB c = true) : ACallL Tryz.prog 38 [.agg (cnR 0 c)] [.perm] (.ptr 1 0 0) (rsH c.ticks) := by
  have px := pl_bytes c.out
  have py := pl_parts c.parts
  have hI := (cnB_iff c).1 h
  have cB := begin_l c hI.cnLen
  have cAb := rAbort_l c h
  obtain ⟨ht1, ht2, ht3, ht4⟩ := tmB_t hI.tm
  have cT := trefTick_l c.tm ht1
  have hl1 : 0 ≤ (tmBeat c.tm).left ∧ (tmBeat c.tm).left ≤ 48 ∧ (c.tm.on = true ∨ (tmBeat c.tm).left = 0) := by
    show 0 ≤ (if c.tm.on = true then max (c.tm.left - 1) 0 else c.tm.left) ∧ (if c.tm.on = true then max (c.tm.left - 1) 0 else c.tm.left) ≤ 48 ∧ (c.tm.on = true ∨ (if c.tm.on = true then max (c.tm.left - 1) 0 else c.tm.left) = 0)
    by_cases hon : c.tm.on = true
    · rw [if_pos hon]; exact ⟨by omega, by omega, .inl hon⟩
    · rw [if_neg hon]; exact ⟨by omega, by omega, .inr (ht4.resolve_left hon)⟩
  have hB1 : tmB (tmBeat c.tm) = true := by
    unfold tmB
    rw [Bool.and_eq_true, decide_eq_true_eq, Bool.or_eq_true, beq_iff_eq]
    exact ⟨⟨hl1.1, hl1.2.1, ht2.1, ht2.2, ht3.1, ht3.2⟩, hl1.2.2⟩
  unfold Cn.ticks
  have htt : (tmBeat c.tm).tries = c.tm.tries := rfl
  obtain ⟨t1, hb⟩ : ∃ r, tmBeat c.tm = r := ⟨_, rfl⟩
  rw [hb] at cT hB1 htt ⊢
  cases hr : tmRings c.tm with
  | false =>
    rw [hr] at cT
    rw [cond_false]
    unfold Cn.start at cB ⊢
    dsimp only [cnR, cnL, rsN, spL, tmC] at cB cT ⊢
    refine ACallL.of_ev mixed Tryz.func38 rfl (fun a w => Tryz.call38 a w) (congrArg Array.toList Tryz.results38) Tryz.ntmps38 fun B hB => ?_
    ((conv => whnf); (repeat' ((first | (with_reducible first | refine qif_n ?_ | refine qif_t ‹_› ?_ | refine qif_f ‹_› ?_) | ((with_reducible refine qif_t ?_ ?_); focus decide) | ((with_reducible refine qif_f ?_ ?_); focus decide) | (with_reducible refine And.intro (orderOk_i ?ho) ?_; (case ho => kernel_rfl)) | (with_reducible first | refine qif_i (fun _ => ?_) (fun _ => ?_) | refine frcVs_i ?_ | refine frcRs_i ?_) | ((with_reducible refine qCall.pure (cT) ?_ ?_ ?_ ?_); rotate_left 4; exact trivial; exact plT; exact plT) | (((with_reducible refine qCall.of (cB) [] [(0, 0)] [] [(1, 2), (2, 3), (3, 4), (4, 5), (5, 6), (6, 7), (7, 8)] [(2, rsO (rsS 3 4 5 6 7 8 c)), (3, .uniq), (4, .uniq), (5, .uniq), (6, .uniq), (7, .uniq), (8, .uniq)] (.ptr 2 0 0) ?hk ?_); (case hk => rfl); (conv => whnf); (repeat (refine And.intro ?_ ?_; exact sideT; (conv => whnf))); (fail_if_success (with_reducible first | refine And.intro (eqv_i ?_) ?_ | refine And.intro (ren_i ?_) ?_))))) <;> (conv => whnf))))
    (refine qConv.of hB [(2, 1)] [(0, 0), (3, 2), (4, 3), (5, 4), (6, 5), (7, 6), (8, 7)] [] (by rfl) ?_; focus ((conv => whnf); (repeat (refine And.intro ?_ ?_; rotate_left; (conv => whnf))); exact trivial; all_goals (try exact andT)))
    all_goals (try exact dt_AhTcpW_ROWR)
  | true =>
    rw [hr] at cT
    rw [cond_true]
    cases h8 : (c.st == 8) with
    | true =>
      rw [cond_true]
      have cC := rshut_l (({ c with tm := t1 } : Cn)).start
      unfold Cn.start at cB cC ⊢
      dsimp only [cnR, cnL, rsN, spL, tmC] at cB cT cC ⊢
      refine ACallL.of_ev mixed Tryz.func38 rfl (fun a w => Tryz.call38 a w) (congrArg Array.toList Tryz.results38) Tryz.ntmps38 fun B hB => ?_
      ((conv => whnf); (repeat' ((first | (with_reducible first | refine qif_n ?_ | refine qif_t ‹_› ?_ | refine qif_f ‹_› ?_) | ((with_reducible refine qif_t ?_ ?_); focus decide) | ((with_reducible refine qif_f ?_ ?_); focus decide) | (with_reducible refine And.intro (orderOk_i ?ho) ?_; (case ho => kernel_rfl)) | (with_reducible first | refine qif_i (fun _ => ?_) (fun _ => ?_) | refine frcVs_i ?_ | refine frcRs_i ?_) | ((with_reducible refine qCall.pure (cT) ?_ ?_ ?_ ?_); rotate_left 4; exact trivial; exact plT; exact plT) | (((with_reducible refine qCall.of (cB) [] [(0, 0)] [] [(1, 2), (2, 3), (3, 4), (4, 5), (5, 6), (6, 7), (7, 8)] [(2, rsO (rsS 3 4 5 6 7 8 c)), (3, .uniq), (4, .uniq), (5, .uniq), (6, .uniq), (7, .uniq), (8, .uniq)] (.ptr 2 0 0) ?hk ?_); (case hk => rfl); (conv => whnf); (repeat (refine And.intro ?_ ?_; exact sideT; (conv => whnf))); (fail_if_success (with_reducible first | refine And.intro (eqv_i ?_) ?_ | refine And.intro (ren_i ?_) ?_)))) | (((with_reducible refine qCall.of (cC) [(1, 2)] [(0, 0), (2, 3), (3, 4), (4, 5), (5, 6), (6, 7), (7, 8)] [] [] [(2, rsO (rsS 3 4 5 6 7 8 (({ c with tm := t1 } : Cn)).shut))] (.tup []) ?hk ?_); (case hk => rfl); (conv => whnf); (repeat (refine And.intro ?_ ?_; exact sideT; (conv => whnf))); (fail_if_success (with_reducible first | refine And.intro (eqv_i ?_) ?_ | refine And.intro (ren_i ?_) ?_))))) <;> (conv => whnf))))
      (refine qConv.of hB [(2, 1)] [(0, 0), (3, 2), (4, 3), (5, 4), (6, 5), (7, 6), (8, 7)] [] (by rfl) ?_; focus ((conv => whnf); (repeat (refine And.intro ?_ ?_; rotate_left; (conv => whnf))); exact trivial; all_goals (try exact andT)))
      all_goals (try exact dt_AhTcpW_ROWR)
    | false =>
      rw [cond_false]
      have cK := trefBack_l t1 hB1
      cases h88 : (c.tm.tries == 8) with
      | true =>
        rw [cond_true]
        have e8 : t1.tries = 8 := by rw [htt]; simpa using h88
        rw [if_pos e8, if_pos e8] at cK
        have hst0 : (c.st == 0) = false := by
          cases h0 : (c.st == 0) with
          | false => rfl
          | true =>
            obtain ⟨_, _, z3⟩ := hI.num.z (by simpa using h0)
            rw [z3] at hr; simp [tmRings, tm0] at hr
        have ea : (({ c with tm := t1 } : Cn)).aborts = c.aborts := by
          unfold Cn.aborts Stp.abort
          show (bif c.st == 0 then _ else _) = (bif c.st == 0 then _ else _)
          rw [hst0, cond_false, cond_false]
          rfl
        rw [ea]
        obtain ⟨y, hy⟩ : ∃ r, c.aborts = r := ⟨_, rfl⟩
        rw [hy] at cAb ⊢
        unfold Cn.start at cB
        dsimp only [cnR, cnL, rsN, spL, tmC] at cB cT cK cAb ⊢
        refine ACallL.of_ev mixed Tryz.func38 rfl (fun a w => Tryz.call38 a w) (congrArg Array.toList Tryz.results38) Tryz.ntmps38 fun B hB => ?_
        ((conv => whnf); (repeat' ((first | (with_reducible first | refine qif_n ?_ | refine qif_t ‹_› ?_ | refine qif_f ‹_› ?_) | ((with_reducible refine qif_t ?_ ?_); focus decide) | ((with_reducible refine qif_f ?_ ?_); focus decide) | (with_reducible refine And.intro (orderOk_i ?ho) ?_; (case ho => kernel_rfl)) | (with_reducible first | refine qif_i (fun _ => ?_) (fun _ => ?_) | refine frcVs_i ?_ | refine frcRs_i ?_) | ((with_reducible refine qCall.pure (cT) ?_ ?_ ?_ ?_); rotate_left 4; exact trivial; exact plT; exact plT) | ((with_reducible refine qCall.pure (cK) ?_ ?_ ?_ ?_); rotate_left 4; exact trivial; exact plT; exact plT) | (((with_reducible refine qCall.of (cB) [] [(0, 0)] [] [(1, 2), (2, 3), (3, 4), (4, 5), (5, 6), (6, 7), (7, 8)] [(2, rsO (rsS 3 4 5 6 7 8 c)), (3, .uniq), (4, .uniq), (5, .uniq), (6, .uniq), (7, .uniq), (8, .uniq)] (.ptr 2 0 0) ?hk ?_); (case hk => rfl); (conv => whnf); (repeat (refine And.intro ?_ ?_; exact sideT; (conv => whnf))); (fail_if_success (with_reducible first | refine And.intro (eqv_i ?_) ?_ | refine And.intro (ren_i ?_) ?_)))) | (((with_reducible refine qCall.of (cAb) [] [(0, 0)] [] [(1, 10), (2, 11), (3, 12), (4, 13), (5, 14), (6, 15), (7, 16)] [(10, rsO (rsN 11 12 13 14 15 16 y)), (11, .uniq), (12, .uniq), (13, .uniq), (14, .uniq), (15, .uniq), (16, .uniq)] (.ptr 10 0 0) ?hk ?_); (case hk => rfl); (conv => whnf); (repeat (refine And.intro ?_ ?_; exact sideT; (conv => whnf))); (fail_if_success (with_reducible first | refine And.intro (eqv_i ?_) ?_ | refine And.intro (ren_i ?_) ?_))))) <;> (conv => whnf))))
        (refine qConv.of hB [(10, 1)] [(0, 0), (11, 2), (12, 3), (13, 4), (14, 5), (15, 6), (16, 7)] [] (by rfl) ?_; focus ((conv => whnf); (repeat (refine And.intro ?_ ?_; rotate_left; (conv => whnf))); exact trivial; all_goals (try exact andT)))
        all_goals (try exact dt_AhTcpW_ROWR)
      | false =>
        rw [cond_false, ← hb]
        exact rAgain_l c h hr h8 h88
end Go.Proofs.YtoknaaoioglapaaGreat

/- The page's connection that is over takes a segment: on data. Conditions: lengths. -/
namespace Go.Proofs.YtoknaaoioglapaaGreat
open Go.RowKit
set_option linter.unusedVariables false
set_option linter.unusedSimpArgs false
set_option maxRecDepth 100000
set_option maxHeartbeats 4000000
theorem dt_AhTcpY_ROWR {p : Prop} (h : p := by first | ((first | rfl | (refine RowsRen.one ?_; (repeat (refine Cells.cons ?_ ?_; focus (first | exact .val _ | exact Ren.ll rfl _ | exact Ren.gg rfl _ | exact Ren.g2 rfl _ | exact Ren.vnil _ _ | exact Ren.vgnil _ _ | exact Ren.sll rfl rfl _ | exact Ren.pll rfl rfl _ | fail))); exact Cells.nil) | exact segs_ll rfl _ | exact parts_ll rfl _ | exact bytes_cells _); done) | fail) : p := h
theorem rTake0_l (c : Cn) (m : Sg) (hI : CnI c) (hm : sgB m = true) (h0 : (c.st == 0) = true) :
    ACallL Tryz.prog 45 [.agg (cnR 0 c), .agg (sgR 0 m)] [.perm] (.ptr 1 0 0) (rsH (c.takes m)) := by
  have px := pl_bytes c.out
  have py := pl_parts c.parts
  have pz := pl_bytes m.data
  obtain ⟨_, _, hseq, _, _, _, hd⟩ := sgB_t hm
  have cB := begin_l c hI.cnLen
  have cL := refLength_l m (by omega)
  have e : c.takes m = c.start := by
    unfold Cn.takes Stp.take
    show (bif c.st == 0 then _ else _) = _
    rw [h0, cond_true]
  rw [e]
  unfold Cn.start at cB ⊢
  dsimp only [cnR, cnL, sgR, sgL, rsN, spL] at cB cL ⊢
  refine ACallL.of_ev mixed Tryz.func45 rfl (fun a w => Tryz.call45 a w) (congrArg Array.toList Tryz.results45) Tryz.ntmps45 fun B hB => ?_
  ((conv => whnf); (repeat' ((first | (with_reducible first | refine qif_n ?_ | refine qif_t ‹_› ?_ | refine qif_f ‹_› ?_) | ((with_reducible refine qif_t ?_ ?_); focus decide) | ((with_reducible refine qif_f ?_ ?_); focus decide) | (with_reducible refine And.intro (orderOk_i ?ho) ?_; (case ho => kernel_rfl)) | (with_reducible first | refine qif_i (fun _ => ?_) (fun _ => ?_) | refine frcVs_i ?_ | refine frcRs_i ?_) | ((with_reducible refine qCall.pure (cL) ?_ ?_ ?_ ?_); rotate_left 4; exact trivial; exact plT; exact plT) | (((with_reducible refine qCall.of (cB) [] [(0, 0)] [] [(1, 3), (2, 4), (3, 5), (4, 6), (5, 7), (6, 8), (7, 9)] [(3, rsO (rsN 4 5 6 7 8 9 ⟨c, [], []⟩)), (4, .uniq), (5, .uniq), (6, .uniq), (7, .uniq), (8, .uniq), (9, .uniq)] (.ptr 3 0 0) ?hk ?_); (case hk => rfl); (conv => whnf); (repeat (refine And.intro ?_ ?_; exact sideT; (conv => whnf))); (fail_if_success (with_reducible first | refine And.intro (eqv_i ?_) ?_ | refine And.intro (ren_i ?_) ?_))))) <;> (conv => whnf))))
  all_goals ((refine qConv.of hB [(3, 1)] [(0, 0), (4, 2), (5, 3), (6, 4), (7, 5), (8, 6), (9, 7)] [] (by rfl) ?_; focus ((conv => whnf); (repeat (refine And.intro ?_ ?_; rotate_left; (conv => whnf))); exact trivial; all_goals (try exact andT))))
  all_goals (try exact dt_AhTcpY_ROWR)
theorem rTakeA_l (c : Cn) (m : Sg) (hI : CnI c) (hm : sgB m = true) : ACallL Tryz.prog 45 [.agg (cnR 0 c), .agg (sgR 0 m)] [.perm] (.ptr 1 0 0) (rsH (c.takes m)) := by
  cases h0 : (c.st == 0) with
  | true => exact rTake0_l c m hI hm h0
  | false => exact rTake_l c m hI hm h0
end Go.Proofs.YtoknaaoioglapaaGreat

/- What an act comes to, on both: plain. No condition. -/
namespace Go.Proofs.YtoknaaoioglapaaGreat
open Go.RowKit
set_option linter.unusedVariables false
set_option linter.unusedSimpArgs false
set_option maxRecDepth 100000
set_option maxHeartbeats 4000000
def stepE (c : Cn) (a : Act) : Int :=
  if bring a.dw 14 = 6 ∨ bring a.dw 14 = 7 then errB c (c.sendE a.b)
  else if bring a.dw 14 = 8 then errB c c.closeE
  else if bring a.dw 14 = 9 ∨ bring a.dw 14 = 10 ∨ bring a.dw 14 = 11 ∨ bring a.dw 14 = 12 then errB c 0
  else if bring a.dw 14 = 13 then bif openB a.n a.m a.s.ack a.s then 0 else 1
  else bif cnB c && fitsB c (fitS c a) then 0 else 1
def stepS (c : Cn) (a : Act) : Stp :=
  if bring a.dw 14 = 6 ∨ bring a.dw 14 = 7 then c.sends a.b
  else if bring a.dw 14 = 8 then c.closes
  else if bring a.dw 14 = 9 then c.aborts
  else if bring a.dw 14 = 10 ∨ bring a.dw 14 = 11 ∨ bring a.dw 14 = 12 then c.ticks
  else if bring a.dw 14 = 13 then opens a.n a.m a.s.ack a.s
  else c.takes (fitS c a)
abbrev zC : List AV := [.val (.int .i64 0), .val (.int .i64 0), .val (.int .i64 0), .val (.int .i64 0), .val (.int .i64 0), .val (.int .i64 0), .val (.int .i64 0), .val (.int .i64 0), .val (.slice none 0 0), .val (.int .i64 0), .val (.slice none 0 0), .val (.bool false), .val (.bool false), .val (.int .i64 0), .val (.int .i64 0), .val (.int .i64 0)]
abbrev cnO (row : List AV) : Own := .live ⟨16, 29, [row]⟩
end Go.Proofs.YtoknaaoioglapaaGreat

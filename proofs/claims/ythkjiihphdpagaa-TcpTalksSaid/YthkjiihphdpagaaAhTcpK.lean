/- A connection sends, is closed, aborted, goes on by a tick, is opened: on data. Conditions: lengths. -/
import Derived.Test.YthkjiihphdpagaaPkAG
import Derived.Test.YthkjiihphdpagaaAhTcpD
import Derived.Test.YthkjiihphdpagaaAhTcpJ
namespace Go.Proofs.Ythkjiihphdpagaa
open Go.RowKit
set_option linter.unusedVariables false
set_option linter.unusedSimpArgs false
set_option maxRecDepth 100000
set_option maxHeartbeats 4000000
theorem dt_AhTcpK_CV {p : Prop} (h : p := by first | ((first | rfl | exact segs_gg rfl _ | exact parts_gg rfl _ | exact bytes_cells _ | exact parts_ll rfl _); done) | fail) : p := h
abbrev stA (y : Stp) : AV := .tup [.agg (cnG 1 2 3 y.c), .glist 4 7 (y.out.map (sgG 5)), .val (.int .i64 0)]
abbrev stH : List Own := [.perm, .uniq, .uniq, .uniq, .uniq, .uniq]
abbrev spB (o p d : Nat) (c : Cn) : List AV := spL (gL o c.out) (.list p 2 (c.parts.map (prg d))) (.val (.slice none 0 0)) (.val (.slice none 0 0)) c
theorem talks0_l (c : Cn) : ACallL Try.prog 38 [.ptr 1 0 0] [.perm, spO (spB 2 3 4 c), .perm, .perm, .perm] (.val (.bool c.talks)) [.perm, spO (spB 2 3 4 c), .perm, .perm, .perm] := by
  unfold Cn.talks
  dsimp only [spB, spL]
  refine ACallL.of_ev mixed Try.func38 rfl (fun a w => Try.call38 a w) (congrArg Array.toList Try.results38) Try.ntmps38 fun B hB => ?_
  ((conv => whnf); (repeat' ((first | (with_reducible first | refine qif_n ?_ | refine qif_t ‹_› ?_ | refine qif_f ‹_› ?_) | ((with_reducible refine qif_t ?_ ?_); focus decide) | ((with_reducible refine qif_f ?_ ?_); focus decide) | (with_reducible refine And.intro (orderOk_i ?ho) ?_; (case ho => kernel_rfl)) | (with_reducible first | refine qif_i (fun _ => ?_) (fun _ => ?_) | refine frcVs_i ?_ | refine frcRs_i ?_)) <;> (conv => whnf))))
  all_goals
    (refine qConv.of hB [(1, 1)] [(0, 0), (2, 2), (3, 3), (4, 4)] [] (by rfl) ?_; focus ((conv => whnf); (repeat (refine And.intro ?_ ?_; rotate_left; (conv => whnf))); exact trivial; all_goals (try exact andT)))
    all_goals (try (refine RowsRen.one ?_; (repeat (refine Cells.cons ?_ ?_; focus (first | exact .val _ | exact Ren.gg rfl _ | exact Ren.pgl rfl rfl _ | fail))); exact Cells.nil))
  all_goals simp only [*, Bool.true_or, Bool.false_or]
theorem done0_l (c : Cn) : ACallL Try.prog 34 [.ptr 1 0 0] [.perm, spO (spB 2 3 4 c), .perm, .perm, .perm] (.tup [.agg (cnG 2 3 4 c), .val (.slice none 0 0), .val (.int .i64 0)]) [.perm, spO (spB 2 3 4 c), .perm, .perm, .perm] := by
  dsimp only [spB, spL, cnG, cnL]
  refine ACallL.of_ev mixed Try.func34 rfl (fun a w => Try.call34 a w) (congrArg Array.toList Try.results34) Try.ntmps34 fun B hB => ?_
  ((conv => whnf); (repeat' ((first | (with_reducible first | refine qif_n ?_ | refine qif_t ‹_› ?_ | refine qif_f ‹_› ?_) | ((with_reducible refine qif_t ?_ ?_); focus decide) | ((with_reducible refine qif_f ?_ ?_); focus decide) | (with_reducible refine And.intro (orderOk_i ?ho) ?_; (case ho => kernel_rfl)) | (with_reducible first | refine qif_i (fun _ => ?_) (fun _ => ?_) | refine frcVs_i ?_ | refine frcRs_i ?_)) <;> (conv => whnf))))
  all_goals
    (refine qConv.of hB [(1, 1)] [(0, 0), (2, 2), (3, 3), (4, 4)] [] (by rfl) ?_; focus ((conv => whnf); (repeat (refine And.intro ?_ ?_; rotate_left; (conv => whnf))); exact trivial; all_goals (try exact andT)))
    all_goals (try (first | exact bytes_cells _ | exact parts_gg rfl _ | (refine RowsRen.one ?_; (repeat (refine Cells.cons ?_ ?_; focus (first | exact .val _ | exact Ren.gg rfl _ | exact Ren.pgl rfl rfl _ | fail))); exact Cells.nil)))
theorem tcpSend_l (c : Cn) (xs : List Int) (h : cnB c = true) (he : c.sendE xs = 0) : ACallL Try.prog 12 [.agg (cnR 0 c), bL 0 xs] [.perm] (stA (c.sends xs)) stH := by
  have px := pl_bytes c.out
  have py := pl_parts c.parts
  have pz := pl_bytes xs
  have hI := (cnB_iff c).1 h
  have cM := tcpMay_l c hI.cnLen
  have cO := tcpOwn_l c hI.cnLen
  have hlen := hI.len
  have lo : (c.out.map bR).length = c.out.length := by simp
  have lx : (xs.map bR).length = xs.length := by simp
  rw [h] at cM
  obtain ⟨ht, hcl, hle⟩ : c.talks = true ∧ c.closing = false ∧ ¬ (8192 - (c.out.length : Int) < (xs.length : Int)) := by
    unfold Cn.sendE at he
    cases h1 : c.closing <;> cases h2 : c.talks <;> rw [h1, h2] at he <;> simp at he ⊢
    cases h3 : decide (8192 - (c.out.length : Int) < (xs.length : Int)) with
    | true => rw [h3] at he; simp at he
    | false => simpa using h3
  have w := IntWalk.i64_in (8192 - (c.out.length : Int)) (by omega)
  have hle' : decide (IntKind.i64.wrap (8192 - ((c.out.map bR).length : Int)) < ((xs.map bR).length : Int)) = false := by rw [lo, lx, w, decide_eq_false_iff_not]; exact hle
  have cT := talks0_l c
  rw [ht] at cT
  unfold Cn.sends
  have hlx : (c.out ++ xs).length ≤ 8192 := by simp; omega
  have hP := hI.pumpOk ht
  have cP := pump_l (({ c with out := c.out ++ xs } : Cn)).start ⟨hI.una, hI.nx, hP.s0, by have := hP.s1; show wdiff c.nx c.una ≤ ((c.out ++ xs).length : Int); unfold Cn.sent at this; simp; omega, hlx, hI.win⟩ (by simp [Cn.start])
  obtain ⟨y, hy⟩ : ∃ r, (({ c with out := c.out ++ xs } : Cn)).start.pump = r := ⟨_, rfl⟩
  rw [hy] at cP ⊢
  have cD := stepDone_l y
  unfold Cn.start at cP
  dsimp only [cnR, cnL, cnG, spR, spN, spB, spL, oL] at cM cO cT cP cD ⊢
  have hmap : c.out.map bR ++ xs.map bR = (c.out ++ xs).map bR := by simp
  refine ACallL.of_ev mixed Try.func12 rfl (fun a w => Try.call12 a w) (congrArg Array.toList Try.results12) Try.ntmps12 fun B hB => ?_
  ((conv => whnf); (repeat' ((first | (with_reducible first | refine qif_n ?_ | refine qif_t ‹_› ?_ | refine qif_f ‹_› ?_) | ((with_reducible refine qif_t ?_ ?_); focus decide) | ((with_reducible refine qif_f ?_ ?_); focus decide) | (with_reducible refine And.intro (orderOk_i ?ho) ?_; (case ho => kernel_rfl)) | (with_reducible first | refine qif_i (fun _ => ?_) (fun _ => ?_) | refine frcVs_i ?_ | refine frcRs_i ?_)) <;> (conv => whnf))))
  ((with_reducible refine qCall.of (cO) [] [(0, 0)] [] [(1, 3), (2, 4), (3, 5)] [(3, .uniq), (4, .uniq), (5, .uniq)] (.agg (cnG 3 4 5 c)) ?hk ?_); (case hk => rfl); (conv => whnf); (repeat (refine And.intro ?_ ?_; exact sideT; (conv => whnf))); (fail_if_success (with_reducible first | refine And.intro (eqv_i ?_) ?_ | refine And.intro (ren_i ?_) ?_)))
  ((conv => whnf); (repeat' ((first | (with_reducible first | refine qif_n ?_ | refine qif_t ‹_› ?_ | refine qif_f ‹_› ?_) | ((with_reducible refine qif_t ?_ ?_); focus decide) | ((with_reducible refine qif_f ?_ ?_); focus decide) | (with_reducible refine And.intro (orderOk_i ?ho) ?_; (case ho => kernel_rfl)) | (with_reducible first | refine qif_i (fun _ => ?_) (fun _ => ?_) | refine frcVs_i ?_ | refine frcRs_i ?_) | ((with_reducible refine qCall.pure (cM) ?_ ?_ ?_ ?_); rotate_left 4; exact trivial; exact plT; exact plT)) <;> (conv => whnf))))
  ((with_reducible refine qCall.of (cT) [(1, 6)] [(0, 0), (2, 3), (3, 4), (4, 5)] [] [] [(6, spO (spB 3 4 5 c))] (.val (.bool true)) ?hk ?_); (case hk => rfl); (conv => whnf); (repeat (refine And.intro ?_ ?_; exact sideT; (conv => whnf))); (fail_if_success (with_reducible first | refine And.intro (eqv_i ?_) ?_ | refine And.intro (ren_i ?_) ?_)))
  ((conv => whnf); (repeat' ((first | (with_reducible first | refine qif_n ?_ | refine qif_t ‹_› ?_ | refine qif_f ‹_› ?_) | ((with_reducible refine qif_t ?_ ?_); focus decide) | ((with_reducible refine qif_f ?_ ?_); focus decide) | (with_reducible refine And.intro (orderOk_i ?ho) ?_; (case ho => kernel_rfl)) | (with_reducible first | refine qif_i (fun _ => ?_) (fun _ => ?_) | refine frcVs_i ?_ | refine frcRs_i ?_) | (refine qCase_i (apG' (nb := 1) rfl rfl rfl rfl rfl rfl rfl rfl rfl rfl (by decide) (ones_bytes xs) (by rw [lo, lx]; omega) hmap) ?_)) <;> (conv => whnf))))
  ((with_reducible refine qCall.of (cP) [(1, 6)] [(0, 0), (2, 7), (3, 4), (4, 5), (5, 7)] [] [(8, 8), (9, 9)] [(6, spO (spN true 7 4 5 7 8 9 y)), (8, .uniq), (9, .uniq)] (.tup []) ?hk ?_); (case hk => rfl); (conv => whnf); (repeat (refine And.intro ?_ ?_; exact sideT; (conv => whnf))); (fail_if_success (with_reducible first | refine And.intro (eqv_i ?_) ?_ | refine And.intro (ren_i ?_) ?_)))
  ((conv => whnf); (repeat' ((first | (with_reducible first | refine qif_n ?_ | refine qif_t ‹_› ?_ | refine qif_f ‹_› ?_) | ((with_reducible refine qif_t ?_ ?_); focus decide) | ((with_reducible refine qif_f ?_ ?_); focus decide) | (with_reducible refine And.intro (orderOk_i ?ho) ?_; (case ho => kernel_rfl)) | (with_reducible first | refine qif_i (fun _ => ?_) (fun _ => ?_) | refine frcVs_i ?_ | refine frcRs_i ?_)) <;> (conv => whnf))))
  ((with_reducible refine qCall.of (cD) [(1, 6)] [(0, 0), (2, 7), (3, 4), (4, 5), (5, 7), (6, 8), (7, 9)] [] [] [(6, spO (spN true 7 4 5 7 8 9 y))] (.tup [.agg (cnG 7 4 5 y.c), .glist 8 7 (y.out.map (sgG 9)), .val (.int .i64 0)]) ?hk ?_); (case hk => rfl); (conv => whnf); (repeat (refine And.intro ?_ ?_; exact sideT; (conv => whnf))); (fail_if_success (with_reducible first | refine And.intro (eqv_i ?_) ?_ | refine And.intro (ren_i ?_) ?_)))
  ((conv => whnf); (repeat' ((first | (with_reducible first | refine qif_n ?_ | refine qif_t ‹_› ?_ | refine qif_f ‹_› ?_) | ((with_reducible refine qif_t ?_ ?_); focus decide) | ((with_reducible refine qif_f ?_ ?_); focus decide) | (with_reducible refine And.intro (orderOk_i ?ho) ?_; (case ho => kernel_rfl)) | (with_reducible first | refine qif_i (fun _ => ?_) (fun _ => ?_) | refine frcVs_i ?_ | refine frcRs_i ?_)) <;> (conv => whnf))))
  (refine qConv.of hB [] [(0, 0), (7, 1), (4, 2), (5, 3), (8, 4), (9, 5)] [] (by rfl) ?_; focus ((conv => whnf); (repeat (refine And.intro ?_ ?_; rotate_left; (conv => whnf))); exact trivial; all_goals (try exact andT)))
  all_goals (try exact dt_AhTcpK_CV)
theorem closed0_l (c : Cn) : ACallL Try.prog 41 [.ptr 1 0 0] [.perm, spO (spB 2 3 4 c), .perm, .perm, .perm] (.tup []) [.perm, spO (spB 2 3 4 c.shut), .perm, .perm, .perm] := by
  dsimp only [spB, spL]
  refine ACallL.of_ev mixed Try.func41 rfl (fun a w => Try.call41 a w) (congrArg Array.toList Try.results41) Try.ntmps41 fun B hB => ?_
  ((conv => whnf); (repeat' ((first | (with_reducible first | refine qif_n ?_ | refine qif_t ‹_› ?_ | refine qif_f ‹_› ?_) | ((with_reducible refine qif_t ?_ ?_); focus decide) | ((with_reducible refine qif_f ?_ ?_); focus decide) | (with_reducible refine And.intro (orderOk_i ?ho) ?_; (case ho => kernel_rfl)) | (with_reducible first | refine qif_i (fun _ => ?_) (fun _ => ?_) | refine frcVs_i ?_ | refine frcRs_i ?_)) <;> (conv => whnf))))
  (refine qConv.of hB [(1, 1)] [(0, 0), (2, 2), (3, 3), (4, 4)] [] (by rfl) ?_; focus ((conv => whnf); (repeat (refine And.intro ?_ ?_; rotate_left; (conv => whnf))); exact trivial; all_goals (try exact andT)))
  all_goals (try (refine RowsRen.one ?_; (repeat (refine Cells.cons ?_ ?_; focus (first | exact .val _ | exact Ren.vnil _ _ | exact Ren.vgnil _ _ | exact Ren.gg rfl _ | exact Ren.pgl rfl rfl _ | fail))); exact Cells.nil))
theorem tcpTick_l (c : Cn) (h : cnB c = true) : ACallL Try.prog 15 [.agg (cnR 0 c)] [.perm] (stA c.ticks) stH := by
  have px := pl_bytes c.out
  have py := pl_parts c.parts
  have hI := (cnB_iff c).1 h
  have cM := tcpMay_l c hI.cnLen
  rw [h] at cM
  have cO := tcpOwn_l c hI.cnLen
  obtain ⟨ht1, ht2, ht3, ht4⟩ := tmB_t hI.tm
  have cB := tbeat_l c.tm ht1
  unfold Cn.ticks
  obtain ⟨t1, hb⟩ : ∃ r, tmBeat c.tm = r := ⟨_, rfl⟩
  rw [hb] at cB ⊢
  cases hr : tmRings c.tm with
  | false =>
    rw [hr] at cB
    rw [cond_false]
    have cD := done0_l ({ c with tm := t1 } : Cn)
    unfold Cn.start
    dsimp only [cnR, cnL, cnG, spR, spN, spB, spL, oL, tmC] at cM cO cB cD ⊢
    refine ACallL.of_ev mixed Try.func15 rfl (fun a w => Try.call15 a w) (congrArg Array.toList Try.results15) Try.ntmps15 fun B hB => ?_
    ((conv => whnf); (repeat' ((first | (with_reducible first | refine qif_n ?_ | refine qif_t ‹_› ?_ | refine qif_f ‹_› ?_) | ((with_reducible refine qif_t ?_ ?_); focus decide) | ((with_reducible refine qif_f ?_ ?_); focus decide) | (with_reducible refine And.intro (orderOk_i ?ho) ?_; (case ho => kernel_rfl)) | (with_reducible first | refine qif_i (fun _ => ?_) (fun _ => ?_) | refine frcVs_i ?_ | refine frcRs_i ?_) | ((with_reducible refine qCall.pure (cM) ?_ ?_ ?_ ?_); rotate_left 4; exact trivial; exact plT; exact plT)) <;> (conv => whnf))))
    ((with_reducible refine qCall.of (cO) [] [(0, 0)] [] [(1, 3), (2, 4), (3, 5)] [(3, .uniq), (4, .uniq), (5, .uniq)] (.agg (cnG 3 4 5 c)) ?hk ?_); (case hk => rfl); (conv => whnf); (repeat (refine And.intro ?_ ?_; exact sideT; (conv => whnf))); (fail_if_success (with_reducible first | refine And.intro (eqv_i ?_) ?_ | refine And.intro (ren_i ?_) ?_)))
    ((conv => whnf); (repeat' ((first | (with_reducible first | refine qif_n ?_ | refine qif_t ‹_› ?_ | refine qif_f ‹_› ?_) | ((with_reducible refine qif_t ?_ ?_); focus decide) | ((with_reducible refine qif_f ?_ ?_); focus decide) | (with_reducible refine And.intro (orderOk_i ?ho) ?_; (case ho => kernel_rfl)) | (with_reducible first | refine qif_i (fun _ => ?_) (fun _ => ?_) | refine frcVs_i ?_ | refine frcRs_i ?_) | ((with_reducible refine qCall.pure (cB) ?_ ?_ ?_ ?_); rotate_left 4; exact trivial; exact plT; exact plT)) <;> (conv => whnf))))
    ((with_reducible refine qCall.of (cD) [(1, 6)] [(0, 0), (2, 3), (3, 4), (4, 5)] [] [] [(6, spO (spB 3 4 5 ({ c with tm := t1 } : Cn)))] (.tup [.agg (cnG 3 4 5 ({ c with tm := t1 } : Cn)), .val (.slice none 0 0), .val (.int .i64 0)]) ?hk ?_); (case hk => rfl); (conv => whnf); (repeat (refine And.intro ?_ ?_; exact sideT; (conv => whnf))); (fail_if_success (with_reducible first | refine And.intro (eqv_i ?_) ?_ | refine And.intro (ren_i ?_) ?_)))
    ((conv => whnf); (repeat' ((first | (with_reducible first | refine qif_n ?_ | refine qif_t ‹_› ?_ | refine qif_f ‹_› ?_) | ((with_reducible refine qif_t ?_ ?_); focus decide) | ((with_reducible refine qif_f ?_ ?_); focus decide) | (with_reducible refine And.intro (orderOk_i ?ho) ?_; (case ho => kernel_rfl)) | (with_reducible first | refine qif_i (fun _ => ?_) (fun _ => ?_) | refine frcVs_i ?_ | refine frcRs_i ?_)) <;> (conv => whnf))))
    (refine qConv.of hB [] [(0, 0), (3, 1), (4, 2), (5, 3)] [] (by rfl) ?_; focus ((conv => whnf); (repeat (refine And.intro ?_ ?_; rotate_left; (conv => whnf))); exact trivial; all_goals (try exact andT)))
    all_goals (try exact dt_AhTcpK_CV)
  | true =>
    rw [hr] at cB
    rw [cond_true]
    have hon : c.tm.on = true := by
      unfold tmRings at hr
      rw [Bool.and_eq_true] at hr
      exact hr.1
    have ht1on : t1.on = true := by rw [← hb]; exact hon
    have ht1t : t1.tries = c.tm.tries := by rw [← hb]; rfl
    have ht1w : t1.wait = c.tm.wait := by rw [← hb]; rfl
    have ht1l : 0 ≤ t1.left ∧ t1.left ≤ 48 := by
      rw [← hb]
      show 0 ≤ (if c.tm.on = true then max (c.tm.left - 1) 0 else c.tm.left) ∧ (if c.tm.on = true then max (c.tm.left - 1) 0 else c.tm.left) ≤ 48
      rw [if_pos hon]; omega
    have hB1 : tmB t1 = true := by
      simp only [tmB, Bool.and_eq_true, decide_eq_true_eq, Bool.or_eq_true]
      exact ⟨by omega, .inl ht1on⟩
    cases h8 : (c.st == 8) with
    | true =>
      rw [cond_true]
      have cC := closed0_l ({ c with tm := t1 } : Cn)
      have cD := done0_l (({ c with tm := t1 } : Cn)).shut
      unfold Cn.start Stp.shut
      dsimp only [cnR, cnL, cnG, spR, spN, spB, spL, oL, tmC] at cM cO cB cC cD ⊢
      refine ACallL.of_ev mixed Try.func15 rfl (fun a w => Try.call15 a w) (congrArg Array.toList Try.results15) Try.ntmps15 fun B hB => ?_
      ((conv => whnf); (repeat' ((first | (with_reducible first | refine qif_n ?_ | refine qif_t ‹_› ?_ | refine qif_f ‹_› ?_) | ((with_reducible refine qif_t ?_ ?_); focus decide) | ((with_reducible refine qif_f ?_ ?_); focus decide) | (with_reducible refine And.intro (orderOk_i ?ho) ?_; (case ho => kernel_rfl)) | (with_reducible first | refine qif_i (fun _ => ?_) (fun _ => ?_) | refine frcVs_i ?_ | refine frcRs_i ?_) | ((with_reducible refine qCall.pure (cM) ?_ ?_ ?_ ?_); rotate_left 4; exact trivial; exact plT; exact plT)) <;> (conv => whnf))))
      ((with_reducible refine qCall.of (cO) [] [(0, 0)] [] [(1, 3), (2, 4), (3, 5)] [(3, .uniq), (4, .uniq), (5, .uniq)] (.agg (cnG 3 4 5 c)) ?hk ?_); (case hk => rfl); (conv => whnf); (repeat (refine And.intro ?_ ?_; exact sideT; (conv => whnf))); (fail_if_success (with_reducible first | refine And.intro (eqv_i ?_) ?_ | refine And.intro (ren_i ?_) ?_)))
      ((conv => whnf); (repeat' ((first | (with_reducible first | refine qif_n ?_ | refine qif_t ‹_› ?_ | refine qif_f ‹_› ?_) | ((with_reducible refine qif_t ?_ ?_); focus decide) | ((with_reducible refine qif_f ?_ ?_); focus decide) | (with_reducible refine And.intro (orderOk_i ?ho) ?_; (case ho => kernel_rfl)) | (with_reducible first | refine qif_i (fun _ => ?_) (fun _ => ?_) | refine frcVs_i ?_ | refine frcRs_i ?_) | ((with_reducible refine qCall.pure (cB) ?_ ?_ ?_ ?_); rotate_left 4; exact trivial; exact plT; exact plT)) <;> (conv => whnf))))
      ((with_reducible refine qCall.of (cC) [(1, 6)] [(0, 0), (2, 3), (3, 4), (4, 5)] [] [] [(6, spO (spB 3 4 5 (({ c with tm := t1 } : Cn)).shut))] (.tup []) ?hk ?_); (case hk => rfl); (conv => whnf); (repeat (refine And.intro ?_ ?_; exact sideT; (conv => whnf))); (fail_if_success (with_reducible first | refine And.intro (eqv_i ?_) ?_ | refine And.intro (ren_i ?_) ?_)))
      ((conv => whnf); (repeat' ((first | (with_reducible first | refine qif_n ?_ | refine qif_t ‹_› ?_ | refine qif_f ‹_› ?_) | ((with_reducible refine qif_t ?_ ?_); focus decide) | ((with_reducible refine qif_f ?_ ?_); focus decide) | (with_reducible refine And.intro (orderOk_i ?ho) ?_; (case ho => kernel_rfl)) | (with_reducible first | refine qif_i (fun _ => ?_) (fun _ => ?_) | refine frcVs_i ?_ | refine frcRs_i ?_)) <;> (conv => whnf))))
      ((with_reducible refine qCall.of (cD) [(1, 6)] [(0, 0), (2, 3), (3, 4), (4, 5)] [] [] [(6, spO (spB 3 4 5 (({ c with tm := t1 } : Cn)).shut))] (.tup [.agg (cnG 3 4 5 (({ c with tm := t1 } : Cn)).shut), .val (.slice none 0 0), .val (.int .i64 0)]) ?hk ?_); (case hk => rfl); (conv => whnf); (repeat (refine And.intro ?_ ?_; exact sideT; (conv => whnf))); (fail_if_success (with_reducible first | refine And.intro (eqv_i ?_) ?_ | refine And.intro (ren_i ?_) ?_)))
      ((conv => whnf); (repeat' ((first | (with_reducible first | refine qif_n ?_ | refine qif_t ‹_› ?_ | refine qif_f ‹_› ?_) | ((with_reducible refine qif_t ?_ ?_); focus decide) | ((with_reducible refine qif_f ?_ ?_); focus decide) | (with_reducible refine And.intro (orderOk_i ?ho) ?_; (case ho => kernel_rfl)) | (with_reducible first | refine qif_i (fun _ => ?_) (fun _ => ?_) | refine frcVs_i ?_ | refine frcRs_i ?_)) <;> (conv => whnf))))
      (refine qConv.of hB [] [(0, 0), (3, 1), (4, 2), (5, 3)] [] (by rfl) ?_; focus ((conv => whnf); (repeat (refine And.intro ?_ ?_; rotate_left; (conv => whnf))); exact trivial; all_goals (try exact andT)))
      all_goals (try exact dt_AhTcpK_CV)
    | false =>
      rw [cond_false]
      have cK := tback_l t1 hB1 ht1on
      cases h88 : (c.tm.tries == 8) with
      | true =>
        rw [cond_true]
        have e8 : t1.tries = 8 := by rw [ht1t]; simpa using h88
        rw [if_pos e8, if_pos e8] at cK
        have cA := abort_l (({ c with tm := t1 } : Cn)).start (by simp [Cn.start])
        unfold Cn.aborts
        obtain ⟨y, hy⟩ : ∃ r, (({ c with tm := t1 } : Cn)).start.abort = r := ⟨_, rfl⟩
        rw [hy] at cA ⊢
        have cD := stepDone_l y
        unfold Cn.start at cA
        dsimp only [cnR, cnL, cnG, spR, spN, spB, spL, oL, tmC] at cM cO cB cK cA cD ⊢
        refine ACallL.of_ev mixed Try.func15 rfl (fun a w => Try.call15 a w) (congrArg Array.toList Try.results15) Try.ntmps15 fun B hB => ?_
        ((conv => whnf); (repeat' ((first | (with_reducible first | refine qif_n ?_ | refine qif_t ‹_› ?_ | refine qif_f ‹_› ?_) | ((with_reducible refine qif_t ?_ ?_); focus decide) | ((with_reducible refine qif_f ?_ ?_); focus decide) | (with_reducible refine And.intro (orderOk_i ?ho) ?_; (case ho => kernel_rfl)) | (with_reducible first | refine qif_i (fun _ => ?_) (fun _ => ?_) | refine frcVs_i ?_ | refine frcRs_i ?_) | ((with_reducible refine qCall.pure (cM) ?_ ?_ ?_ ?_); rotate_left 4; exact trivial; exact plT; exact plT)) <;> (conv => whnf))))
        ((with_reducible refine qCall.of (cO) [] [(0, 0)] [] [(1, 3), (2, 4), (3, 5)] [(3, .uniq), (4, .uniq), (5, .uniq)] (.agg (cnG 3 4 5 c)) ?hk ?_); (case hk => rfl); (conv => whnf); (repeat (refine And.intro ?_ ?_; exact sideT; (conv => whnf))); (fail_if_success (with_reducible first | refine And.intro (eqv_i ?_) ?_ | refine And.intro (ren_i ?_) ?_)))
        ((conv => whnf); (repeat' ((first | (with_reducible first | refine qif_n ?_ | refine qif_t ‹_› ?_ | refine qif_f ‹_› ?_) | ((with_reducible refine qif_t ?_ ?_); focus decide) | ((with_reducible refine qif_f ?_ ?_); focus decide) | (with_reducible refine And.intro (orderOk_i ?ho) ?_; (case ho => kernel_rfl)) | (with_reducible first | refine qif_i (fun _ => ?_) (fun _ => ?_) | refine frcVs_i ?_ | refine frcRs_i ?_) | ((with_reducible refine qCall.pure (cB) ?_ ?_ ?_ ?_); rotate_left 4; exact trivial; exact plT; exact plT) | ((with_reducible refine qCall.pure (cK) ?_ ?_ ?_ ?_); rotate_left 4; exact trivial; exact plT; exact plT)) <;> (conv => whnf))))
        ((with_reducible refine qCall.of (cA) [(1, 6)] [(0, 0), (2, 3), (3, 4), (4, 5), (5, 3)] [] [(8, 8), (9, 9)] [(6, spO (spN true 3 4 5 3 8 9 y)), (8, .uniq), (9, .uniq)] (.tup []) ?hk ?_); (case hk => rfl); (conv => whnf); (repeat (refine And.intro ?_ ?_; exact sideT; (conv => whnf))); (fail_if_success (with_reducible first | refine And.intro (eqv_i ?_) ?_ | refine And.intro (ren_i ?_) ?_)))
        ((conv => whnf); (repeat' ((first | (with_reducible first | refine qif_n ?_ | refine qif_t ‹_› ?_ | refine qif_f ‹_› ?_) | ((with_reducible refine qif_t ?_ ?_); focus decide) | ((with_reducible refine qif_f ?_ ?_); focus decide) | (with_reducible refine And.intro (orderOk_i ?ho) ?_; (case ho => kernel_rfl)) | (with_reducible first | refine qif_i (fun _ => ?_) (fun _ => ?_) | refine frcVs_i ?_ | refine frcRs_i ?_)) <;> (conv => whnf))))
        ((with_reducible refine qCall.of (cD) [(1, 6)] [(0, 0), (2, 3), (3, 4), (4, 5), (5, 3), (6, 8), (7, 9)] [] [] [(6, spO (spN true 3 4 5 3 8 9 y))] (.tup [.agg (cnG 3 4 5 y.c), .glist 8 7 (y.out.map (sgG 9)), .val (.int .i64 0)]) ?hk ?_); (case hk => rfl); (conv => whnf); (repeat (refine And.intro ?_ ?_; exact sideT; (conv => whnf))); (fail_if_success (with_reducible first | refine And.intro (eqv_i ?_) ?_ | refine And.intro (ren_i ?_) ?_)))
        ((conv => whnf); (repeat' ((first | (with_reducible first | refine qif_n ?_ | refine qif_t ‹_› ?_ | refine qif_f ‹_› ?_) | ((with_reducible refine qif_t ?_ ?_); focus decide) | ((with_reducible refine qif_f ?_ ?_); focus decide) | (with_reducible refine And.intro (orderOk_i ?ho) ?_; (case ho => kernel_rfl)) | (with_reducible first | refine qif_i (fun _ => ?_) (fun _ => ?_) | refine frcVs_i ?_ | refine frcRs_i ?_)) <;> (conv => whnf))))
        (refine qConv.of hB [] [(0, 0), (3, 1), (4, 2), (5, 3), (8, 4), (9, 5)] [] (by rfl) ?_; focus ((conv => whnf); (repeat (refine And.intro ?_ ?_; rotate_left; (conv => whnf))); exact trivial; all_goals (try exact andT)))
        all_goals (try exact dt_AhTcpK_CV)
      | false =>
        rw [cond_false]
        have e8 : ¬ t1.tries = 8 := by rw [ht1t]; simpa using h88
        rw [if_neg e8, if_neg e8] at cK
        obtain ⟨t2, hb2⟩ : ∃ r, tmBack t1 = r := ⟨_, rfl⟩
        rw [hb2] at cK ⊢
        have cA := again_l (({ c with tm := t2 } : Cn)).start (by simp [Cn.start]) hI.len
        obtain ⟨y, hy⟩ : ∃ r, (({ c with tm := t2 } : Cn)).start.again = r := ⟨_, rfl⟩
        rw [hy] at cA ⊢
        have cD := stepDone_l y
        unfold Cn.start at cA
        dsimp only [cnR, cnL, cnG, spR, spN, spB, spL, oL, tmC] at cM cO cB cK cA cD ⊢
        refine ACallL.of_ev mixed Try.func15 rfl (fun a w => Try.call15 a w) (congrArg Array.toList Try.results15) Try.ntmps15 fun B hB => ?_
        ((conv => whnf); (repeat' ((first | (with_reducible first | refine qif_n ?_ | refine qif_t ‹_› ?_ | refine qif_f ‹_› ?_) | ((with_reducible refine qif_t ?_ ?_); focus decide) | ((with_reducible refine qif_f ?_ ?_); focus decide) | (with_reducible refine And.intro (orderOk_i ?ho) ?_; (case ho => kernel_rfl)) | (with_reducible first | refine qif_i (fun _ => ?_) (fun _ => ?_) | refine frcVs_i ?_ | refine frcRs_i ?_) | ((with_reducible refine qCall.pure (cM) ?_ ?_ ?_ ?_); rotate_left 4; exact trivial; exact plT; exact plT)) <;> (conv => whnf))))
        ((with_reducible refine qCall.of (cO) [] [(0, 0)] [] [(1, 3), (2, 4), (3, 5)] [(3, .uniq), (4, .uniq), (5, .uniq)] (.agg (cnG 3 4 5 c)) ?hk ?_); (case hk => rfl); (conv => whnf); (repeat (refine And.intro ?_ ?_; exact sideT; (conv => whnf))); (fail_if_success (with_reducible first | refine And.intro (eqv_i ?_) ?_ | refine And.intro (ren_i ?_) ?_)))
        ((conv => whnf); (repeat' ((first | (with_reducible first | refine qif_n ?_ | refine qif_t ‹_› ?_ | refine qif_f ‹_› ?_) | ((with_reducible refine qif_t ?_ ?_); focus decide) | ((with_reducible refine qif_f ?_ ?_); focus decide) | (with_reducible refine And.intro (orderOk_i ?ho) ?_; (case ho => kernel_rfl)) | (with_reducible first | refine qif_i (fun _ => ?_) (fun _ => ?_) | refine frcVs_i ?_ | refine frcRs_i ?_) | ((with_reducible refine qCall.pure (cB) ?_ ?_ ?_ ?_); rotate_left 4; exact trivial; exact plT; exact plT) | ((with_reducible refine qCall.pure (cK) ?_ ?_ ?_ ?_); rotate_left 4; exact trivial; exact plT; exact plT)) <;> (conv => whnf))))
        ((with_reducible refine qCall.of (cA) [(1, 6)] [(0, 0), (2, 3), (3, 4), (4, 5), (5, 3)] [] [(8, 8), (9, 9)] [(6, spO (spN true 3 4 5 3 8 9 y)), (8, .uniq), (9, .uniq)] (.tup []) ?hk ?_); (case hk => rfl); (conv => whnf); (repeat (refine And.intro ?_ ?_; exact sideT; (conv => whnf))); (fail_if_success (with_reducible first | refine And.intro (eqv_i ?_) ?_ | refine And.intro (ren_i ?_) ?_)))
        ((conv => whnf); (repeat' ((first | (with_reducible first | refine qif_n ?_ | refine qif_t ‹_› ?_ | refine qif_f ‹_› ?_) | ((with_reducible refine qif_t ?_ ?_); focus decide) | ((with_reducible refine qif_f ?_ ?_); focus decide) | (with_reducible refine And.intro (orderOk_i ?ho) ?_; (case ho => kernel_rfl)) | (with_reducible first | refine qif_i (fun _ => ?_) (fun _ => ?_) | refine frcVs_i ?_ | refine frcRs_i ?_)) <;> (conv => whnf))))
        ((with_reducible refine qCall.of (cD) [(1, 6)] [(0, 0), (2, 3), (3, 4), (4, 5), (5, 3), (6, 8), (7, 9)] [] [] [(6, spO (spN true 3 4 5 3 8 9 y))] (.tup [.agg (cnG 3 4 5 y.c), .glist 8 7 (y.out.map (sgG 9)), .val (.int .i64 0)]) ?hk ?_); (case hk => rfl); (conv => whnf); (repeat (refine And.intro ?_ ?_; exact sideT; (conv => whnf))); (fail_if_success (with_reducible first | refine And.intro (eqv_i ?_) ?_ | refine And.intro (ren_i ?_) ?_)))
        ((conv => whnf); (repeat' ((first | (with_reducible first | refine qif_n ?_ | refine qif_t ‹_› ?_ | refine qif_f ‹_› ?_) | ((with_reducible refine qif_t ?_ ?_); focus decide) | ((with_reducible refine qif_f ?_ ?_); focus decide) | (with_reducible refine And.intro (orderOk_i ?ho) ?_; (case ho => kernel_rfl)) | (with_reducible first | refine qif_i (fun _ => ?_) (fun _ => ?_) | refine frcVs_i ?_ | refine frcRs_i ?_)) <;> (conv => whnf))))
        (refine qConv.of hB [] [(0, 0), (3, 1), (4, 2), (5, 3), (8, 4), (9, 5)] [] (by rfl) ?_; focus ((conv => whnf); (repeat (refine And.intro ?_ ?_; rotate_left; (conv => whnf))); exact trivial; all_goals (try exact andT)))
        all_goals (try exact dt_AhTcpK_CV)
end Go.Proofs.Ythkjiihphdpagaa

/- Contracts and plain laws, one behind the other: AhTcpF, AhTcpG, TcpL2, AhTcpH, AhTcpI. Conditions are said at each. -/
import Derived.Test.YtceohcbokbalhaaPkAE
import Derived.Test.YtceohcbokbalhaaPkAD
import Derived.Test.YtceohcbokbalhaaAhTcpE
/- A connection takes an acknowledgement, data: on data. Conditions: bounds. -/
namespace Go.Proofs.Ytceohcbokbalhaa
open Go.RowKit
set_option linter.unusedVariables false
set_option linter.unusedSimpArgs false
set_option maxRecDepth 100000
set_option maxHeartbeats 4000000
theorem dt_AhTcpF_ROW {p : Prop} (h : p := by first | ((first | rfl | (refine RowsRen.one ?_; (repeat (refine Cells.cons ?_ ?_; focus (first | exact .val _ | exact Ren.gg rfl _ | exact Ren.ll rfl _ | exact Ren.g2 rfl _ | exact Ren.oo rfl _ _ | exact Ren.vnil _ _ | exact Ren.vgnil _ _ | exact Ren.sgs rfl rfl _ | exact Ren.sgs1 rfl rfl rfl rfl | exact Ren.pgl rfl rfl _ | fail))); exact Cells.nil) | exact segs_gg rfl _ | exact parts_gg rfl _ | exact bytes_cells _); done) | fail) : p := h
theorem dt_AhTcpF_ROWN {p : Prop} (h : p := by first | ((first | rfl | (refine RowsRen.one ?_; (repeat (refine Cells.cons ?_ ?_; focus (first | exact .val _ | exact Ren.gg rfl _ | exact Ren.ll rfl _ | exact Ren.g2 rfl _ | exact Ren.oo rfl _ _ | exact Ren.vnil _ _ | exact Ren.vgnil _ _ | exact Ren.sgs rfl rfl _ | exact Ren.sgsN rfl rfl rfl rfl | exact Ren.sgs1 rfl rfl rfl rfl | exact Ren.pgl rfl rfl _ | fail))); exact Cells.nil) | exact segs_gg rfl _ | exact parts_gg rfl _ | exact bytes_cells _); done) | fail) : p := h
theorem hasOk_l (s n v : Int) (b : Bool) (hs : 0 ≤ s ∧ s ≤ 4294967295) (hn : 0 ≤ n ∧ n ≤ 65536) (hv : 0 ≤ v ∧ v ≤ 4294967295) (hb : decide (woff v s < n) = b) : ACallL Try.prog 91 [.val (.complex .f64 (fI s) (fI n)), .val (.int .i64 v)] [.perm] (.tup [.val (.bool b), .val (.int .i64 0)]) [.perm] :=
  ACallL.of_vals (us := [.complex .f64 (fI s) (fI n), .int .i64 v]) (fun a w => Try.call91 a w) (has_ok_c s n v b hs hn hv hb) fun _ _ _ => R.tup2 _ _
theorem segLen_l (m : Sg) (hm : m.data.length ≤ 100000000) : ACallL Try.prog 72 [.agg (sgR 0 m)] [.perm] (.val (.int .i64 m.len)) [.perm] := by
  have px := pl_bytes m.data
  have lo : (m.data.map bR).length = m.data.length := by simp
  have w1 := IntWalk.i64_in ((m.data.length : Int) + 1) (by omega)
  have w2 := IntWalk.i64_in ((m.data.length : Int) + 1 + 1) (by omega)
  unfold Sg.len flN
  dsimp only [sgR, sgL]
  refine ACallL.of_ev mixed Try.func72 rfl (fun a w => Try.call72 a w) (congrArg Array.toList Try.results72) Try.ntmps72 fun B hB => ?_
  ((conv => whnf); (repeat' ((first | (with_reducible first | refine qif_n ?_ | refine qif_t ‹_› ?_ | refine qif_f ‹_› ?_) | ((with_reducible refine qif_t ?_ ?_); focus decide) | ((with_reducible refine qif_f ?_ ?_); focus decide) | (with_reducible refine And.intro (orderOk_i ?ho) ?_; (case ho => kernel_rfl)) | (with_reducible first | refine qif_i (fun _ => ?_) (fun _ => ?_) | refine frcVs_i ?_ | refine frcRs_i ?_)) <;> (conv => whnf))))
  all_goals (refine qConv.of hB [] [(0, 0)] [] (by rfl) ?_; focus ((conv => whnf); (repeat (refine And.intro ?_ ?_; rotate_left; (conv => whnf))); exact trivial; all_goals (try exact andT)))
  all_goals (simp only [bne, Bool.not_eq_true', Bool.not_eq_false'] at *)
  all_goals (simp only [*, cond_true, cond_false, Bool.true_or, Bool.or_true, Bool.false_or, Bool.or_false, Bool.true_and, Bool.false_and, Bool.and_true, Bool.and_false, Bool.not_true, Bool.not_false])
  all_goals simp only [Int.add_zero]
theorem sgB_t {m : Sg} (h : sgB m = true) : (0 ≤ m.sp ∧ m.sp ≤ 65535) ∧ (0 ≤ m.dp ∧ m.dp ≤ 65535) ∧ (0 ≤ m.seq ∧ m.seq ≤ 4294967295) ∧ (0 ≤ m.ack ∧ m.ack ≤ 4294967295) ∧ (0 ≤ m.fl ∧ m.fl ≤ 63) ∧ (0 ≤ m.win ∧ m.win ≤ 65535) ∧ m.data.length ≤ 1460 := by
  simpa only [sgB, within, Bool.and_eq_true, decide_eq_true_eq] using h
theorem Sg.len_bd {m : Sg} (h : m.data.length ≤ 1460) : 0 ≤ m.len ∧ m.len ≤ 1462 := by
  unfold Sg.len
  cases flN m.fl 2 <;> cases flN m.fl 1 <;> simp <;> omega
theorem accept_l (x : Stp) (m : Sg) (hi : 0 ≤ x.c.inx ∧ x.c.inx ≤ 4294967295) (hm : sgB m = true) :
    ACallL Try.prog 75 [.ptr 1 0 0, .agg (sgR 0 m)] [.perm, spO (spR false 6 7 x), .perm, .perm, .perm, .perm, .perm, .perm]
      (.val (.bool (x.c.accepts m))) [.perm, spO (spR false 6 7 x), .perm, .perm, .perm, .perm, .perm, .perm] := by
  obtain ⟨_, _, hseq, _, _, _, hd⟩ := sgB_t hm
  have hl := Sg.len_bd hd
  have w := IntWalk.i64_in (m.len - 1) (by omega)
  have wa := wadd_bd m.seq (m.len - 1)
  have px := pl_bytes m.data
  have cL := segLen_l m (by omega)
  have c1 := hasOk_l x.c.inx 2048 m.seq _ hi (by decide) hseq rfl
  have c2 := hasOk_l x.c.inx 2048 (wadd m.seq (m.len - 1)) _ hi (by decide) (by omega) rfl
  rw [← w] at c2
  have cO := ofOk_l x.c.inx 2048 hi (by decide)
  unfold Cn.accepts
  rw [← w]
  dsimp only [spR, spL, oL, sgR, sgL] at cL ⊢
  refine ACallL.of_ev mixed Try.func75 rfl (fun a w => Try.call75 a w) (congrArg Array.toList Try.results75) Try.ntmps75 fun B hB => ?_
  ((conv => whnf); (repeat' ((first | (with_reducible first | refine qif_n ?_ | refine qif_t ‹_› ?_ | refine qif_f ‹_› ?_) | ((with_reducible refine qif_t ?_ ?_); focus decide) | ((with_reducible refine qif_f ?_ ?_); focus decide) | (with_reducible refine And.intro (orderOk_i ?ho) ?_; (case ho => kernel_rfl)) | (with_reducible first | refine qif_i (fun _ => ?_) (fun _ => ?_) | refine frcVs_i ?_ | refine frcRs_i ?_) | ((with_reducible refine qCall.pure (cO) ?_ ?_ ?_ ?_); rotate_left 4; exact trivial; exact plT; exact plT) | ((with_reducible refine qCall.pure (cL) ?_ ?_ ?_ ?_); rotate_left 4; exact trivial; exact plT; exact plT) | ((with_reducible refine qCall.pure (c1) ?_ ?_ ?_ ?_); rotate_left 4; exact trivial; exact plT; exact plT) | ((with_reducible refine qCall.pure (c2) ?_ ?_ ?_ ?_); rotate_left 4; exact trivial; exact plT; exact plT) | ((with_reducible refine qCall.pure (spanAdd_l _ _) ?_ ?_ ?_ ?_); rotate_left 4; exact trivial; exact plT; exact plT)) <;> (conv => whnf))))
  all_goals
    (refine qConv.of hB [(1, 1)] [(0, 0), (2, 2), (3, 3), (4, 4), (5, 5), (6, 6), (7, 7)] [] (by rfl) ?_; focus ((conv => whnf); (repeat (refine And.intro ?_ ?_; rotate_left; (conv => whnf))); exact trivial; all_goals (try exact andT)))
    all_goals (try exact dt_AhTcpF_ROW)
  all_goals (simp only [*, cond_true, cond_false, Bool.true_or, Bool.or_true, Bool.false_or, Bool.or_false, Bool.true_and, Bool.false_and, Bool.and_true, Bool.and_false, Bool.not_true, Bool.not_false])
theorem Ren.sgsN {L I F : Prs} {h : Hp} {r r' d d' : Nat} {row : List AV} {m : Sg} {l : List Sg} (h0 : I.has r r' = true) (h1 : I.has d d' = true) (hd : m.data = []) (hr : row = sgL (.val (.slice none 0 0)) m) : Ren (qOf L I F) h (.glist r 7 (l.map (sgG d) ++ [row])) (.glist r' 7 ((l ++ [m]).map (sgG d'))) := by
  subst hr
  have e : RowsRen (qOf L I F) h [sgL (.val (.slice none 0 0)) m] ([m].map (sgG d')) := by
    refine RowsRen.one (.cons (.val _) (.cons (.val _) (.cons (.val _) (.cons (.val _) (.cons (.val _) (.cons (.val _) (.cons ?_ .nil)))))))
    rw [hd]
    exact .vgnil _ _
  obtain ⟨a, b, c⟩ := (segs_gg (L := L) (I := I) (F := F) (h := h) h1 l).app e
  rw [← List.map_append] at a b c
  exact .glist _ _ _ _ _ ((Prs.has_iff I r r').1 h0) a b c
theorem acked_l (x : Stp) (m : Sg) (hs : x.out.length ≤ 1000000) (ho : x.c.out.length ≤ 8192) (hm : m.data.length ≤ 1460) :
    ACallL Try.prog 78 [.ptr 1 0 0, .agg (sgR 0 m)] [.perm, spO (spR false 6 7 x), .perm, .perm, .perm, .perm, .uniq, .uniq]
      (.val (.bool (x.ack m).2)) [.perm, spO (spR false 8 9 (x.ack m).1), .perm, .perm, .perm, .perm, .dead, .dead, .uniq, .uniq] := by
  have px := pl_bytes m.data
  have lo : (x.c.out.map bR).length = x.c.out.length := by simp
  have cS := stepAck_l false x (by omega)
  have hw := wdiff_bd m.ack x.c.una
  have cC := closed_l false ({ x with c := x.c.ackC m } : Stp)
  unfold Stp.ack
  by_cases hd : wdiff m.ack x.c.una ≤ 0
  · have hd1 : decide (wdiff m.ack x.c.una ≤ 0) = true := by simpa using hd
    dsimp only [spR, spL, oL, sgR, sgL] at cS ⊢
    refine ACallL.of_ev mixed Try.func78 rfl (fun a w => Try.call78 a w) (congrArg Array.toList Try.results78) Try.ntmps78 fun B hB => ?_
    ((conv => whnf); (repeat' ((first | (with_reducible first | refine qif_n ?_ | refine qif_t ‹_› ?_ | refine qif_f ‹_› ?_) | ((with_reducible refine qif_t ?_ ?_); focus decide) | ((with_reducible refine qif_f ?_ ?_); focus decide) | (with_reducible refine And.intro (orderOk_i ?ho) ?_; (case ho => kernel_rfl)) | (with_reducible first | refine qif_i (fun _ => ?_) (fun _ => ?_) | refine frcVs_i ?_ | refine frcRs_i ?_) | ((with_reducible refine qCall.pure (spanDiff_l _ _) ?_ ?_ ?_ ?_); rotate_left 4; exact trivial; exact plT; exact plT) | (((with_reducible refine qCall.of (cS) [(1, 1)] [(0, 0), (2, 2), (3, 3), (4, 4), (5, 5), (6, 6), (7, 7)] [] [(8, 9), (9, 10)] [(1, spO (spY false 9 10 x (x.out ++ [⟨x.c.port, x.c.pp, x.c.nx, x.c.inx, 16, 2048, []⟩]))), (6, .dead), (7, .dead), (9, .uniq), (10, .uniq)] (.tup []) ?hk ?_); (case hk => rfl); (conv => whnf); (repeat (refine And.intro ?_ ?_; exact sideT; (conv => whnf))); (fail_if_success (with_reducible first | refine And.intro (eqv_i ?_) ?_ | refine And.intro (ren_i ?_) ?_)))) | (refine qCase_i (apG (nb := 72) rfl rfl rfl rfl rfl rfl rfl rfl rfl rfl (by decide) rfl (by simp; omega)) ?_)) <;> (conv => whnf))))
    all_goals (try simp only [bne, Bool.not_eq_true', Bool.not_eq_false'] at *)
    all_goals (simp only [*, cond_true, cond_false, Bool.and_true, Bool.true_and, Bool.and_false, Bool.false_and])
    all_goals first | ((refine qConv.of hB [(1, 1)] [(0, 0), (2, 2), (3, 3), (4, 4), (5, 5), (10, 8), (7, 9)] [] (by rfl) ?_; focus ((conv => whnf); (repeat (refine And.intro ?_ ?_; rotate_left; (conv => whnf))); exact trivial; all_goals (try exact andT)))) | ((refine qConv.of hB [(1, 1)] [(0, 0), (2, 2), (3, 3), (4, 4), (5, 5), (6, 8), (7, 9)] [] (by rfl) ?_; focus ((conv => whnf); (repeat (refine And.intro ?_ ?_; rotate_left; (conv => whnf))); exact trivial; all_goals (try exact andT)))) | ((refine qConv.of hB [(1, 1)] [(0, 0), (2, 2), (3, 3), (4, 4), (5, 5), (9, 8), (10, 9)] [] (by rfl) ?_; focus ((conv => whnf); (repeat (refine And.intro ?_ ?_; rotate_left; (conv => whnf))); exact trivial; all_goals (try exact andT))))
    all_goals (try exact dt_AhTcpF_ROWN)
  · have hd1 : decide (wdiff m.ack x.c.una ≤ 0) = false := by simpa using hd
    obtain ⟨ys, hys⟩ : ∃ ys, x.c.out.drop (min (wdiff m.ack x.c.una) x.c.out.length).toNat = ys := ⟨_, rfl⟩
    have hcb : 0 ≤ (some (min (wdiff m.ack x.c.una) ((x.c.out.map bR).length : Int))).getD 0 ∧ (some (min (wdiff m.ack x.c.una) ((x.c.out.map bR).length : Int))).getD 0 ≤ (none : Option Int).getD ((x.c.out.map bR).length : Int) ∧ (none : Option Int).getD ((x.c.out.map bR).length : Int) ≤ (none : Option Int).getD ((x.c.out.map bR).length : Int) ∧ (none : Option Int).getD ((x.c.out.map bR).length : Int) ≤ ((x.c.out.map bR).length : Int) ∧ ((none : Option Int) = none ∨ (none : Option Int) ≠ none) := by
      simp only [Option.getD_some, Option.getD_none]
      exact ⟨by omega, by omega, by omega, by omega, .inl trivial⟩
    have hsl : ((x.c.out.map bR).drop ((some (min (wdiff m.ack x.c.una) ((x.c.out.map bR).length : Int))).getD 0).toNat).take ((none : Option Int).getD ((x.c.out.map bR).length : Int) - (some (min (wdiff m.ack x.c.una) ((x.c.out.map bR).length : Int))).getD 0).toNat = ys.map bR := by
      simp only [Option.getD_some, Option.getD_none]
      rw [← hys, lo, List.map_drop]
      exact List.take_of_length_le (by simp; omega)
    have hac : x.c.ackC m = { x.c with win := m.win, out := ys, una := m.ack, tm := tm0 } := by unfold Cn.ackC; rw [hys]
    rw [hac] at cC ⊢
    dsimp only [spR, spL, oL, sgR, sgL] at cS cC ⊢
    refine ACallL.of_ev mixed Try.func78 rfl (fun a w => Try.call78 a w) (congrArg Array.toList Try.results78) Try.ntmps78 fun B hB => ?_
    ((conv => whnf); (repeat' ((first | (with_reducible first | refine qif_n ?_ | refine qif_t ‹_› ?_ | refine qif_f ‹_› ?_) | ((with_reducible refine qif_t ?_ ?_); focus decide) | ((with_reducible refine qif_f ?_ ?_); focus decide) | (with_reducible refine And.intro (orderOk_i ?ho) ?_; (case ho => kernel_rfl)) | (with_reducible first | refine qif_i (fun _ => ?_) (fun _ => ?_) | refine frcVs_i ?_ | refine frcRs_i ?_) | ((with_reducible refine qCall.pure (spanDiff_l _ _) ?_ ?_ ?_ ?_); rotate_left 4; exact trivial; exact plT; exact plT) | ((with_reducible refine qCall.pure (finOut_l _) ?_ ?_ ?_ ?_); rotate_left 4; exact trivial; exact plT; exact plT) | ((with_reducible refine qCall.pure (tnew_l _) ?_ ?_ ?_ ?_); rotate_left 4; exact trivial; exact plT; exact plT) | (refine qCall.sent rfl ?_) | (refine qCase_i (slL' rfl rfl rfl rfl rfl rfl rfl rfl hcb hsl) ?_) | (((with_reducible refine qCall.of (cS) [(1, 1)] [(0, 0), (2, 2), (3, 3), (4, 4), (5, 5), (6, 6), (7, 7)] [] [(8, 9), (9, 10)] [(1, spO (spY false 9 10 x (x.out ++ [⟨x.c.port, x.c.pp, x.c.nx, x.c.inx, 16, 2048, []⟩]))), (6, .dead), (7, .dead), (9, .uniq), (10, .uniq)] (.tup []) ?hk ?_); (case hk => rfl); (conv => whnf); (repeat (refine And.intro ?_ ?_; exact sideT; (conv => whnf))); (fail_if_success (with_reducible first | refine And.intro (eqv_i ?_) ?_ | refine And.intro (ren_i ?_) ?_)))) | (((with_reducible refine qCall.of (cC) [(1, 1)] [(0, 0), (2, 2), (3, 3), (4, 4), (5, 5), (6, 6), (7, 7)] [] [] [(1, spO (spL (bL 2 []) (.list 3 2 (([] : List Pt).map (prg 4))) (.glist 6 7 (x.out.map (sgG 7))) (gL 5 x.told) ({ x.c with win := m.win, out := ys, una := m.ack, tm := tm0 } : Cn).shut))] (.tup []) ?hk ?_); (case hk => rfl); (conv => whnf); (repeat (refine And.intro ?_ ?_; exact sideT; (conv => whnf))); (fail_if_success (with_reducible first | refine And.intro (eqv_i ?_) ?_ | refine And.intro (ren_i ?_) ?_)))) | (refine qCase_i (apG (nb := 72) rfl rfl rfl rfl rfl rfl rfl rfl rfl rfl (by decide) rfl (by simp; omega)) ?_)) <;> (conv => whnf))))
    all_goals (try simp only [bne, Bool.not_eq_true', Bool.not_eq_false'] at *)
    all_goals (simp only [*, cond_true, cond_false, Bool.and_true, Bool.true_and, Bool.and_false, Bool.false_and])
    all_goals first | ((refine qConv.of hB [(1, 1)] [(0, 0), (2, 2), (3, 3), (4, 4), (5, 5), (10, 8), (7, 9)] [] (by rfl) ?_; focus ((conv => whnf); (repeat (refine And.intro ?_ ?_; rotate_left; (conv => whnf))); exact trivial; all_goals (try exact andT)))) | ((refine qConv.of hB [(1, 1)] [(0, 0), (2, 2), (3, 3), (4, 4), (5, 5), (6, 8), (7, 9)] [] (by rfl) ?_; focus ((conv => whnf); (repeat (refine And.intro ?_ ?_; rotate_left; (conv => whnf))); exact trivial; all_goals (try exact andT)))) | ((refine qConv.of hB [(1, 1)] [(0, 0), (2, 2), (3, 3), (4, 4), (5, 5), (9, 8), (10, 9)] [] (by rfl) ?_; focus ((conv => whnf); (repeat (refine And.intro ?_ ?_; rotate_left; (conv => whnf))); exact trivial; all_goals (try exact andT))))
    all_goals (try exact dt_AhTcpF_ROWN)
end Go.Proofs.Ytceohcbokbalhaa

/- Data come to a connection: on data. Conditions: bounds. -/
namespace Go.Proofs.Ytceohcbokbalhaa
open Go.RowKit
set_option linter.unusedVariables false
set_option linter.unusedSimpArgs false
set_option maxRecDepth 100000
set_option maxHeartbeats 4000000
theorem dt_AhTcpG_ROW {p : Prop} (h : p := by first | ((first | rfl | (refine RowsRen.one ?_; (repeat (refine Cells.cons ?_ ?_; focus (first | exact .val _ | exact Ren.gg rfl _ | exact Ren.ll rfl _ | exact Ren.g2 rfl _ | exact Ren.oo rfl _ _ | exact Ren.vnil _ _ | exact Ren.vgnil _ _ | exact Ren.sgs rfl rfl _ | exact Ren.sgs1 rfl rfl rfl rfl | exact Ren.pgl rfl rfl _ | fail))); exact Cells.nil) | exact segs_gg rfl _ | exact parts_gg rfl _ | exact bytes_cells _); done) | fail) : p := h
theorem data_l (x : Stp) (m : Sg) (hb : mayB x.c.inx x.c.parts = true) (hm : sgB m = true) :
    ACallL Try.prog 79 [.ptr 1 0 0, .agg (sgR 0 m)] [.perm, spO (spN false 2 3 4 5 6 7 x), .perm, .uniq, .uniq, .uniq, .perm, .perm]
      (.tup []) [.perm, spO (spN false 2 8 9 10 6 7 (x.data m)), .perm, .dead, .dead, .dead, .perm, .perm, .uniq, .uniq, .uniq] := by
  have px := pl_bytes m.data
  obtain ⟨_, _, hseq, _, _, _, hd⟩ := sgB_t hm
  obtain ⟨hn, h8, hin⟩ := mayB_in hb
  have hp : PtsOk x.c.parts := ptsMay hb
  have cP := put_l x.c.inx m.seq x.c.parts m.data hn hseq (by omega) hp hin
  rw [addS_rea hb] at cP
  have cH := hears_l x
  unfold Stp.data
  by_cases hh : x.c.hears = true
  · rw [hh] at cH
    rw [hh, cond_true]
    unfold Stp.dataIn Stp.dataFin flN
    obtain ⟨⟨n', ps', told⟩, hr⟩ : ∃ r, reaS x.c.inx x.c.parts m.seq m.data = r := ⟨_, rfl⟩
    rw [hr] at cP ⊢
    dsimp only [spN, spR, spL, oL, sgR, sgL] at cH ⊢
    refine ACallL.of_ev mixed Try.func79 rfl (fun a w => Try.call79 a w) (congrArg Array.toList Try.results79) Try.ntmps79 fun B hB => ?_
    ((conv => whnf); (repeat' ((first | (with_reducible first | refine qif_n ?_ | refine qif_t ‹_› ?_ | refine qif_f ‹_› ?_) | ((with_reducible refine qif_t ?_ ?_); focus decide) | ((with_reducible refine qif_f ?_ ?_); focus decide) | (with_reducible refine And.intro (orderOk_i ?ho) ?_; (case ho => kernel_rfl)) | (with_reducible first | refine qif_i (fun _ => ?_) (fun _ => ?_) | refine frcVs_i ?_ | refine frcRs_i ?_) | ((with_reducible refine qCall.pure (spanAdd_l _ _) ?_ ?_ ?_ ?_); rotate_left 4; exact trivial; exact plT; exact plT) | ((with_reducible refine qCall.pure (tnew_l _) ?_ ?_ ?_ ?_); rotate_left 4; exact trivial; exact plT; exact plT) | (((with_reducible refine qCall.of (cH) [(1, 1)] [(0, 0), (2, 2), (3, 3), (4, 4), (5, 5), (6, 6), (7, 7)] [] [] [(1, spO (spY false 6 7 x x.out))] (.val (.bool true)) ?hk ?_); (case hk => rfl); (conv => whnf); (repeat (refine And.intro ?_ ?_; exact sideT; (conv => whnf))); (fail_if_success (with_reducible first | refine And.intro (eqv_i ?_) ?_ | refine And.intro (ren_i ?_) ?_)))) | (((with_reducible refine qCall.of (cP) [] [(0, 0), (1, 3), (2, 4)] [] [(3, 9), (4, 10), (5, 11)] [(3, .dead), (4, .dead), (9, .uniq), (10, .uniq), (11, .uniq)] (putAV 9 10 11 (n', ps', told)) ?hk ?_); (case hk => rfl); (conv => whnf); (repeat (refine And.intro ?_ ?_; exact sideT; (conv => whnf))); (fail_if_success (with_reducible first | refine And.intro (eqv_i ?_) ?_ | refine And.intro (ren_i ?_) ?_))))) <;> (conv => whnf))))
    all_goals (try simp only [bne, Bool.not_eq_true', Bool.not_eq_false', List.length_map] at *)
    all_goals (try simp only [*, cond_true, cond_false, Bool.and_true, Bool.true_and, Bool.and_false, Bool.false_and])
    all_goals first | ((refine qConv.of hB [(1, 1)] [(0, 0), (2, 2), (9, 8), (10, 9), (11, 10), (6, 6), (7, 7)] [] (by rfl) ?_; focus ((conv => whnf); (repeat (refine And.intro ?_ ?_; rotate_left; (conv => whnf))); exact trivial; all_goals (try exact andT)))) | ((refine qConv.of hB [(1, 1)] [(0, 0), (2, 2), (3, 8), (4, 9), (5, 10), (6, 6), (7, 7)] [] (by rfl) ?_; focus ((conv => whnf); (repeat (refine And.intro ?_ ?_; rotate_left; (conv => whnf))); exact trivial; all_goals (try exact andT))))
    all_goals (try exact dt_AhTcpG_ROW)
  · have hh : x.c.hears = false := by simpa using hh
    rw [hh] at cH
    rw [hh, cond_false]
    dsimp only [spN, spR, spL, oL, sgR, sgL] at cH ⊢
    refine ACallL.of_ev mixed Try.func79 rfl (fun a w => Try.call79 a w) (congrArg Array.toList Try.results79) Try.ntmps79 fun B hB => ?_
    ((conv => whnf); (repeat' ((first | (with_reducible first | refine qif_n ?_ | refine qif_t ‹_› ?_ | refine qif_f ‹_› ?_) | ((with_reducible refine qif_t ?_ ?_); focus decide) | ((with_reducible refine qif_f ?_ ?_); focus decide) | (with_reducible refine And.intro (orderOk_i ?ho) ?_; (case ho => kernel_rfl)) | (with_reducible first | refine qif_i (fun _ => ?_) (fun _ => ?_) | refine frcVs_i ?_ | refine frcRs_i ?_) | (((with_reducible refine qCall.of (cH) [(1, 1)] [(0, 0), (2, 2), (3, 3), (4, 4), (5, 5), (6, 6), (7, 7)] [] [] [(1, spO (spY false 6 7 x x.out))] (.val (.bool false)) ?hk ?_); (case hk => rfl); (conv => whnf); (repeat (refine And.intro ?_ ?_; exact sideT; (conv => whnf))); (fail_if_success (with_reducible first | refine And.intro (eqv_i ?_) ?_ | refine And.intro (ren_i ?_) ?_))))) <;> (conv => whnf))))
    all_goals (try simp only [bne, Bool.not_eq_true', Bool.not_eq_false', List.length_map] at *)
    all_goals (try simp only [*, cond_true, cond_false, Bool.and_true, Bool.true_and, Bool.and_false, Bool.false_and])
    all_goals first | ((refine qConv.of hB [(1, 1)] [(0, 0), (2, 2), (9, 8), (10, 9), (11, 10), (6, 6), (7, 7)] [] (by rfl) ?_; focus ((conv => whnf); (repeat (refine And.intro ?_ ?_; rotate_left; (conv => whnf))); exact trivial; all_goals (try exact andT)))) | ((refine qConv.of hB [(1, 1)] [(0, 0), (2, 2), (3, 8), (4, 9), (5, 10), (6, 6), (7, 7)] [] (by rfl) ?_; focus ((conv => whnf); (repeat (refine And.intro ?_ ?_; rotate_left; (conv => whnf))); exact trivial; all_goals (try exact andT))))
    all_goals (try exact dt_AhTcpG_ROW)
end Go.Proofs.Ytceohcbokbalhaa

/- A connection that may be one stays one: plain law. No condition but that what comes may come. -/
namespace Go.Proofs.Ytceohcbokbalhaa
open Go.RowKit
set_option linter.unusedVariables false
set_option linter.unusedSimpArgs false
theorem CnI.tm_of {c : Cn} (h : CnI c) {t : Tm} (ht : tmB t = true) (h0 : c.st ≠ 0) : CnI { c with tm := t } :=
  ⟨⟨h.link, h.ip, h.pp, h.port, h.st, h.una, h.nx, h.win, h.len, h.may, ht⟩, ⟨fun e => absurd e h0, h.num.a, h.num.b, h.num.d, h.num.e⟩⟩
theorem dataIn_I {x : Stp} (h : CnI x.c) (m : Sg) (h0 : x.c.st ≠ 0) : CnI (x.dataIn m).c :=
  ⟨⟨h.link, h.ip, h.pp, h.port, h.st, h.una, h.nx, h.win, h.len, reaS_may h.may m.seq m.data, h.tm⟩, ⟨fun e => absurd e h0, h.num.a, h.num.b, h.num.d, h.num.e⟩⟩
theorem dataFin_I {x : Stp} (h : CnI x.c) (m : Sg) (hh : x.c.hears = true) : CnI (x.dataFin m).c := by
  have hs : x.c.st = 2 ∨ x.c.st = 3 ∨ x.c.st = 4 := by simpa [Cn.hears] using hh
  unfold Stp.dataFin
  cases flN m.fl 1 with
  | true => exact h
  | false =>
    simp only [cond_false]
    cases (wadd m.seq m.data.length == x.c.inx) with
    | false => exact h
    | true =>
      simp only [cond_true]
      cases h1 : decide (0 < (x.c.parts.length : Int)) with
      | true => exact h
      | false =>
        simp only [cond_false]
        have hp : x.c.parts = [] := by rw [← List.length_eq_zero_iff]; simp at h1; simp [h1]
        have hF : mayB (wadd x.c.inx 1) x.c.parts = true := by rw [hp]; exact may_next
        cases h2 : (x.c.st == 2) with
        | true =>
          refine ⟨⟨h.link, h.ip, h.pp, h.port, ⟨by show (0 : Int) ≤ 5; decide, by show (5 : Int) ≤ 8; decide⟩, h.una, h.nx, h.win, h.len, hF, h.tm⟩, ⟨fun e => ?_, fun e => ?_, fun e => ?_, fun e => ?_, fun _ => h.num.e (.inl (by simpa using h2))⟩⟩
          · exact absurd e (by show ¬ (5 : Int) = 0; decide)
          · exact absurd e (by show ¬ (5 : Int) = 1; decide)
          · exact absurd e (by show ¬ ((5 : Int) = 4 ∨ (5 : Int) = 8); decide)
          · exact absurd e (by show ¬ ((5 : Int) = 3 ∨ (5 : Int) = 6 ∨ (5 : Int) = 7); decide)
        | false =>
          simp only [cond_false]
          cases h3 : (x.c.st == 3) with
          | true =>
            refine ⟨⟨h.link, h.ip, h.pp, h.port, ⟨by show (0 : Int) ≤ 6; decide, by show (6 : Int) ≤ 8; decide⟩, h.una, h.nx, h.win, h.len, hF, h.tm⟩, ⟨fun e => ?_, fun e => ?_, fun e => ?_, fun _ => h.num.d (.inl (by simpa using h3)), fun e => ?_⟩⟩
            · exact absurd e (by show ¬ (6 : Int) = 0; decide)
            · exact absurd e (by show ¬ (6 : Int) = 1; decide)
            · exact absurd e (by show ¬ ((6 : Int) = 4 ∨ (6 : Int) = 8); decide)
            · exact absurd e (by show ¬ ((6 : Int) = 2 ∨ (6 : Int) = 5); decide)
          | false =>
            have h4 : x.c.st = 4 := by simp at h2 h3; omega
            refine ⟨⟨h.link, h.ip, h.pp, h.port, ⟨by show (0 : Int) ≤ 8; decide, by show (8 : Int) ≤ 8; decide⟩, h.una, h.nx, h.win, h.len, hF, tm20_ok⟩, ⟨fun e => ?_, fun e => ?_, fun _ => h.num.b (.inl h4), fun e => ?_, fun e => ?_⟩⟩
            · exact absurd e (by show ¬ (8 : Int) = 0; decide)
            · exact absurd e (by show ¬ (8 : Int) = 1; decide)
            · exact absurd e (by show ¬ ((8 : Int) = 3 ∨ (8 : Int) = 6 ∨ (8 : Int) = 7); decide)
            · exact absurd e (by show ¬ ((8 : Int) = 2 ∨ (8 : Int) = 5); decide)
theorem data_I {x : Stp} (h : CnI x.c) (m : Sg) : CnI (x.data m).c := by
  unfold Stp.data
  cases hh : x.c.hears with
  | false => exact h
  | true => exact dataFin_I (dataIn_I h m (by intro e; simp [Cn.hears, e] at hh)) m hh
theorem ackLen_I {x : Stp} (h : CnI x.c) (m : Sg) : CnI (x.ackLen m).c := by
  unfold Stp.ackLen
  cases decide (0 < m.len) <;> exact h
theorem pumpGo_ok : ∀ (k : Nat) {y : Stp}, PumpOk y.c → PumpOk (pumpGo k y).c ∧ (pumpGo k y).c = { y.c with nx := (pumpGo k y).c.nx }
  | 0, y, h => ⟨h, rfl⟩
  | k + 1, y, h => by
    rw [pumpGo]
    by_cases hn : y.c.pumpN ≤ 0
    · rw [if_pos hn]; exact ⟨h, rfl⟩
    · rw [if_neg hn]
      obtain ⟨h1, h2⟩ := pumpGo_ok k (pump1_ok h (by omega))
      exact ⟨h1, h2.trans rfl⟩
theorem pump_I {x : Stp} (h : CnI x.c) (ht : x.c.talks = true) : CnI x.pump.c := by
  obtain ⟨hp, he⟩ := pumpGo_ok x.c.out.length (h.pumpOk ht)
  have hst : x.c.st = 2 ∨ x.c.st = 5 := by simpa [Cn.talks] using ht
  unfold Stp.pump
  obtain ⟨y, hy⟩ : ∃ y, pumpGo x.c.out.length x = y := ⟨_, rfl⟩
  rw [hy] at hp he ⊢
  have hI : CnI y.c := by
    rw [he]
    refine ⟨⟨h.link, h.ip, h.pp, h.port, h.st, h.una, hp.nx, h.win, h.len, h.may, h.tm⟩, ⟨fun e => ?_, fun e => ?_, fun e => ?_, fun e => ?_, fun _ => ?_⟩⟩
    · have e : x.c.st = 0 := e; omega
    · have e : x.c.st = 1 := e; omega
    · have e : x.c.st = 4 ∨ x.c.st = 8 := e; omega
    · have e : x.c.st = 3 ∨ x.c.st = 6 ∨ x.c.st = 7 := e; omega
    · rw [← he]; exact ⟨hp.s0, hp.s1⟩
  have hys : y.c.st = 2 ∨ y.c.st = 5 := by rw [he]; exact hst
  have h2 : CnI y.pump2.c ∧ y.pump2.c.st ≠ 0 := by
    unfold Stp.pump2
    by_cases hc : y.c.closing = true ∧ y.c.sent = y.c.len
    · rw [if_pos hc]
      have hb := wadd_bd y.c.nx 1
      have hlen := hp.len
      have hsn : wdiff (wadd y.c.nx 1) y.c.una = y.c.out.length + 1 := by
        have := hc.2
        unfold Cn.sent Cn.len at this
        rw [wdiff_add (by omega) (by decide) (by omega), this]
      by_cases h2 : y.c.st = 2
      · rw [if_pos h2]
        refine ⟨⟨⟨hI.link, hI.ip, hI.pp, hI.port, ⟨by show (0 : Int) ≤ 3; decide, by show (3 : Int) ≤ 8; decide⟩, hI.una, by show 0 ≤ wadd y.c.nx 1 ∧ wadd y.c.nx 1 ≤ 4294967295; omega, hI.win, hI.len, hI.may, hI.tm⟩, ⟨fun e => ?_, fun e => ?_, fun e => ?_, fun _ => ⟨hc.1, hsn⟩, fun e => ?_⟩⟩, by show ¬ (3 : Int) = 0; decide⟩
        · exact absurd e (by show ¬ (3 : Int) = 0; decide)
        · exact absurd e (by show ¬ (3 : Int) = 1; decide)
        · exact absurd e (by show ¬ ((3 : Int) = 4 ∨ (3 : Int) = 8); decide)
        · exact absurd e (by show ¬ ((3 : Int) = 2 ∨ (3 : Int) = 5); decide)
      · rw [if_neg h2]
        refine ⟨⟨⟨hI.link, hI.ip, hI.pp, hI.port, ⟨by show (0 : Int) ≤ 7; decide, by show (7 : Int) ≤ 8; decide⟩, hI.una, by show 0 ≤ wadd y.c.nx 1 ∧ wadd y.c.nx 1 ≤ 4294967295; omega, hI.win, hI.len, hI.may, hI.tm⟩, ⟨fun e => ?_, fun e => ?_, fun e => ?_, fun _ => ⟨hc.1, hsn⟩, fun e => ?_⟩⟩, by show ¬ (7 : Int) = 0; decide⟩
        · exact absurd e (by show ¬ (7 : Int) = 0; decide)
        · exact absurd e (by show ¬ (7 : Int) = 1; decide)
        · exact absurd e (by show ¬ ((7 : Int) = 4 ∨ (7 : Int) = 8); decide)
        · exact absurd e (by show ¬ ((7 : Int) = 2 ∨ (7 : Int) = 5); decide)
    · rw [if_neg hc]; exact ⟨hI, by omega⟩
  unfold Stp.pump3
  split
  · exact h2.1.tm_of tm3_ok h2.2
  · exact h2.1
theorem pumpT_I {x : Stp} (h : CnI x.c) : CnI x.pumpT.c := by
  unfold Stp.pumpT
  cases ht : x.c.talks with
  | true => exact pump_I h ht
  | false => exact h
theorem late_I {x : Stp} (h : CnI x.c) : CnI x.late.c := by
  unfold Stp.late
  cases hl : x.c.lateB with
  | false => exact h
  | true => exact h.tm_of tm3_ok (by intro e; simp [Cn.lateB, e] at hl)
theorem more_I {x : Stp} (h : CnI x.c) (m : Sg) : CnI (x.more m).c := late_I (pumpT_I (ackLen_I (data_I h m) m))
theorem take_I {x : Stp} (h : CnI x.c) {m : Sg} (hm : sgB m = true) : CnI (x.take m).c := by
  unfold Stp.take
  cases h0 : (x.c.st == 0) with
  | true => exact h
  | false =>
    simp only [cond_false]
    have h0 : x.c.st ≠ 0 := by simpa using h0
    have hk := ack_I h hm h0
    cases x.c.accepts m <;> cases flN m.fl 4 <;> simp only [cond_true, cond_false]
    · exact h
    · cases h8 : (x.c.st == 8) with
      | true => exact h.tm_of (c := x.acks.c) tm20_ok h0
      | false => exact h
    · exact h.shut
    · cases flN m.fl 2 <;> simp only [cond_true, cond_false]
      · exact h
      · cases flN m.fl 16 <;> simp only [cond_true, cond_false]
        · cases (x.ack m).2 <;> simp only [cond_true, cond_false]
          · exact hk
          · exact more_I hk m
        · exact h
end Go.Proofs.Ytceohcbokbalhaa

/- A connection takes a segment: on data. Conditions: it may be one, the segment may be one. -/
namespace Go.Proofs.Ytceohcbokbalhaa
open Go.RowKit
set_option linter.unusedVariables false
set_option linter.unusedSimpArgs false
set_option maxRecDepth 100000
set_option maxHeartbeats 4000000
theorem ack_out (x : Stp) (m : Sg) : (x.ack m).1.out.length ≤ x.out.length + 1 := by
  have key : ∀ (b : Bool) (p q : Stp × Bool), p.1.out.length ≤ x.out.length + 1 → q.1.out.length ≤ x.out.length + 1 → (bif b then p else q).1.out.length ≤ x.out.length + 1 := fun b p q h1 h2 => by cases b <;> assumption
  unfold Stp.ack
  refine key _ _ _ (key _ _ _ (by simp) (by simp)) (key _ _ _ (by simp [Stp.acks, Stp.seg]) (key _ _ _ (by simp) (key _ _ _ (key _ _ _ (by simp) (key _ _ _ (by simp) (key _ _ _ (by simp) (by simp)))) (by simp))))
theorem data_out (x : Stp) (m : Sg) : (x.data m).out = x.out := by
  unfold Stp.data Stp.dataFin
  cases x.c.hears <;> simp only [cond_true, cond_false]
  cases flN m.fl 1 <;> simp only [cond_true, cond_false]
  · generalize (wadd m.seq m.data.length == (x.dataIn m).c.inx) = b1
    generalize decide (0 < ((x.dataIn m).c.parts.length : Int)) = b2
    generalize ((x.dataIn m).c.st == 2) = b3
    generalize ((x.dataIn m).c.st == 3) = b4
    cases b1 <;> cases b2 <;> cases b3 <;> cases b4 <;> rfl
  · rfl
theorem dt_AhTcpH_ROW {p : Prop} (h : p := by first | ((first | rfl | (refine RowsRen.one ?_; (repeat (refine Cells.cons ?_ ?_; focus (first | exact .val _ | exact Ren.gg rfl _ | exact Ren.ll rfl _ | exact Ren.g2 rfl _ | exact Ren.oo rfl _ _ | exact Ren.vnil _ _ | exact Ren.vgnil _ _ | exact Ren.sgs rfl rfl _ | exact Ren.sgs1 rfl rfl rfl rfl | exact Ren.pgl rfl rfl _ | fail))); exact Cells.nil) | exact segs_gg rfl _ | exact parts_gg rfl _ | exact bytes_cells _); done) | fail) : p := h
theorem take_l (x : Stp) (m : Sg) (hI : CnI x.c) (hm : sgB m = true) (hs : x.out.length ≤ 10) :
    ACallL Try.prog 56 [.ptr 1 0 0, .agg (sgR 0 m)] [.perm, spO (spR false 6 7 x), .perm, .uniq, .uniq, .uniq, .uniq, .uniq]
      (.tup []) [.perm, spO (spN false 2 8 9 10 11 12 (x.take m)), .perm, .dead, .dead, .dead, .dead, .dead, .uniq, .uniq, .uniq, .uniq, .uniq] := by
  have px := pl_bytes m.data
  obtain ⟨_, _, _, _, _, _, hd⟩ := sgB_t hm
  have hin := (mayB_in hI.may).1
  have cA := accept_l x m hin hm
  have cK := acked_l x m (by omega) hI.len hd
  have cS0 := stepAck_l false x (by omega)
  have cC0 := closed_l false x
  have cL := segLen_l m (by omega)
  have ho1 := ack_out x m
  unfold Stp.take
  by_cases h0 : (x.c.st == 0) = true
  · rw [h0, cond_true]
    dsimp only [spN, spR, spL, oL, sgR, sgL]
    refine ACallL.of_ev mixed Try.func56 rfl (fun a w => Try.call56 a w) (congrArg Array.toList Try.results56) Try.ntmps56 fun B hB => ?_
    ((conv => whnf); (repeat' ((first | (with_reducible first | refine qif_n ?_ | refine qif_t ‹_› ?_ | refine qif_f ‹_› ?_) | ((with_reducible refine qif_t ?_ ?_); focus decide) | ((with_reducible refine qif_f ?_ ?_); focus decide) | (with_reducible refine And.intro (orderOk_i ?ho) ?_; (case ho => kernel_rfl)) | (with_reducible first | refine qif_i (fun _ => ?_) (fun _ => ?_) | refine frcVs_i ?_ | refine frcRs_i ?_) | (refine qAW.jump mixed 2 ?_)) <;> (conv => whnf))))
    all_goals ((refine qConv.of hB [(1, 1)] [(0, 0), (2, 2), (3, 8), (4, 9), (5, 10), (6, 11), (7, 12)] [] (by rfl) ?_; focus ((conv => whnf); (repeat (refine And.intro ?_ ?_; rotate_left; (conv => whnf))); exact trivial; all_goals (try exact andT))))
    all_goals (try exact dt_AhTcpH_ROW)
  · have h0 : (x.c.st == 0) = false := by simpa using h0
    rw [h0, cond_false]
    have hI1 := ack_I hI hm (by simpa using h0)
    obtain ⟨⟨x1, b⟩, h1⟩ : ∃ r, x.ack m = r := ⟨_, rfl⟩
    rw [h1] at cK hI1 ho1 ⊢
    dsimp only at cK hI1 ho1 ⊢
    have cD := data_l x1 m hI1.may hm
    have hI2 := data_I hI1 m
    have ho2 := data_out x1 m
    unfold Stp.more
    obtain ⟨x2, h2⟩ : ∃ r, x1.data m = r := ⟨_, rfl⟩
    rw [h2] at cD hI2 ho2 ⊢
    have cS2 := stepAck_l false x2 (by rw [ho2]; omega)
    have cT2 := talks_l false x2
    have hI3 : CnI x2.acks.c := hI2
    have ho3 : x2.acks.out.length = x2.out.length + 1 := by simp [Stp.acks, Stp.seg]
    obtain ⟨x3, h3⟩ : ∃ r, x2.acks = r := ⟨_, rfl⟩
    rw [h3] at cS2 hI3 ho3
    have cT3 := talks_l false x3
    obtain ⟨t2, ht2⟩ : ∃ t, x2.c.talks = t := ⟨_, rfl⟩
    obtain ⟨t3, ht3⟩ : ∃ t, x3.c.talks = t := ⟨_, rfl⟩
    have cP2 := fun (h : t2 = true) => pumpB_l x2 (hI2.pumpOk (ht2.trans h)) (by rw [ho2]; omega)
    have cP3 := fun (h : t3 = true) => pumpB_l x3 (hI3.pumpOk (ht3.trans h)) (by rw [ho3, ho2]; omega)
    obtain ⟨x4, h4⟩ : ∃ r, x2.pump = r := ⟨_, rfl⟩
    obtain ⟨x5, h5⟩ : ∃ r, x3.pump = r := ⟨_, rfl⟩
    rw [h4] at cP2
    rw [h5] at cP3
    rw [ht2] at cT2
    rw [ht3] at cT3
    obtain ⟨acc, ha⟩ : ∃ r, x.c.accepts m = r := ⟨_, rfl⟩
    rw [ha] at cA ⊢
    clear ho1 ho2 ho3 hI1 hI2 hI3 hI hs hd hin h1 h2 ha
    unfold flN
    dsimp only [spN, spR, spL, oL, sgR, sgL] at cA cK cS0 cC0 cL cD cS2 cT2 cT3 cP2 cP3 ⊢
    refine ACallL.of_ev mixed Try.func56 rfl (fun a w => Try.call56 a w) (congrArg Array.toList Try.results56) Try.ntmps56 fun B hB => ?_
    ((conv => whnf); (repeat' ((first | (with_reducible first | refine qif_n ?_ | refine qif_t ‹_› ?_ | refine qif_f ‹_› ?_) | ((with_reducible refine qif_t ?_ ?_); focus decide) | ((with_reducible refine qif_f ?_ ?_); focus decide) | (with_reducible refine And.intro (orderOk_i ?ho) ?_; (case ho => kernel_rfl)) | (with_reducible first | refine qif_i (fun _ => ?_) (fun _ => ?_) | refine frcVs_i ?_ | refine frcRs_i ?_) | (refine qAW.jump mixed 2 ?_) | ((with_reducible refine qCall.pure (cL) ?_ ?_ ?_ ?_); rotate_left 4; exact trivial; exact plT; exact plT) | ((with_reducible refine qCall.pure (tnew_l _) ?_ ?_ ?_ ?_); rotate_left 4; exact trivial; exact plT; exact plT) | (refine qCall.sent rfl ?_) | (((with_reducible refine qCall.of (cA) [(1, 1)] [(0, 0), (2, 2), (3, 3), (4, 4), (5, 5), (6, 6), (7, 7)] [] [] [(1, spO (spN false 2 3 4 5 6 7 x))] (.val (.bool acc)) ?hk ?_); (case hk => rfl); (conv => whnf); (repeat (refine And.intro ?_ ?_; exact sideT; (conv => whnf))); (fail_if_success (with_reducible first | refine And.intro (eqv_i ?_) ?_ | refine And.intro (ren_i ?_) ?_)))) | (((with_reducible refine qCall.of (cS0) [(1, 1)] [(0, 0), (2, 2), (3, 3), (4, 4), (5, 5), (6, 6), (7, 7)] [] [(8, 9), (9, 10)] [(1, spO (spY false 9 10 x (x.out ++ [⟨x.c.port, x.c.pp, x.c.nx, x.c.inx, 16, 2048, []⟩]))), (6, .dead), (7, .dead), (9, .uniq), (10, .uniq)] (.tup []) ?hk ?_); (case hk => rfl); (conv => whnf); (repeat (refine And.intro ?_ ?_; exact sideT; (conv => whnf))); (fail_if_success (with_reducible first | refine And.intro (eqv_i ?_) ?_ | refine And.intro (ren_i ?_) ?_)))) | (((with_reducible refine qCall.of (cC0) [(1, 1)] [(0, 0), (2, 2), (3, 3), (4, 4), (5, 5), (6, 6), (7, 7)] [] [] [(1, spO (spL (bL 2 []) (.list 3 2 (([] : List Pt).map (prg 4))) (.glist 6 7 (x.out.map (sgG 7))) (gL 5 x.told) x.c.shut))] (.tup []) ?hk ?_); (case hk => rfl); (conv => whnf); (repeat (refine And.intro ?_ ?_; exact sideT; (conv => whnf))); (fail_if_success (with_reducible first | refine And.intro (eqv_i ?_) ?_ | refine And.intro (ren_i ?_) ?_)))) | (((with_reducible refine qCall.of (cK) [(1, 1)] [(0, 0), (2, 2), (3, 3), (4, 4), (5, 5), (6, 6), (7, 7)] [] [(8, 9), (9, 10)] [(1, spO (spN false 2 3 4 5 9 10 x1)), (6, .dead), (7, .dead), (9, .uniq), (10, .uniq)] (.val (.bool b)) ?hk ?_); (case hk => rfl); (conv => whnf); (repeat (refine And.intro ?_ ?_; exact sideT; (conv => whnf))); (fail_if_success (with_reducible first | refine And.intro (eqv_i ?_) ?_ | refine And.intro (ren_i ?_) ?_)))) | (((with_reducible refine qCall.of (cD) [(1, 1)] [(0, 0), (2, 2), (3, 3), (4, 4), (5, 5), (6, 9), (7, 10)] [] [(8, 11), (9, 12), (10, 13)] [(1, spO (spN false 2 11 12 13 9 10 x2)), (3, .dead), (4, .dead), (5, .dead), (11, .uniq), (12, .uniq), (13, .uniq)] (.tup []) ?hk ?_); (case hk => rfl); (conv => whnf); (repeat (refine And.intro ?_ ?_; exact sideT; (conv => whnf))); (fail_if_success (with_reducible first | refine And.intro (eqv_i ?_) ?_ | refine And.intro (ren_i ?_) ?_)))) | (((with_reducible refine qCall.of (cT2) [(1, 1)] [(0, 0), (2, 2), (3, 11), (4, 12), (5, 13), (6, 9), (7, 10)] [] [] [(1, spO (spN false 2 11 12 13 9 10 x2))] (.val (.bool t2)) ?hk ?_); (case hk => rfl); (conv => whnf); (repeat (refine And.intro ?_ ?_; exact sideT; (conv => whnf))); (fail_if_success (with_reducible first | refine And.intro (eqv_i ?_) ?_ | refine And.intro (ren_i ?_) ?_)))) | (((with_reducible refine qCall.of (cS2) [(1, 1)] [(0, 0), (2, 2), (3, 11), (4, 12), (5, 13), (6, 9), (7, 10)] [] [(8, 14), (9, 15)] [(1, spO (spN false 2 11 12 13 14 15 x3)), (9, .dead), (10, .dead), (14, .uniq), (15, .uniq)] (.tup []) ?hk ?_); (case hk => rfl); (conv => whnf); (repeat (refine And.intro ?_ ?_; exact sideT; (conv => whnf))); (fail_if_success (with_reducible first | refine And.intro (eqv_i ?_) ?_ | refine And.intro (ren_i ?_) ?_)))) | (((with_reducible refine qCall.of (cT3) [(1, 1)] [(0, 0), (2, 2), (3, 11), (4, 12), (5, 13), (6, 14), (7, 15)] [] [] [(1, spO (spN false 2 11 12 13 14 15 x3))] (.val (.bool t3)) ?hk ?_); (case hk => rfl); (conv => whnf); (repeat (refine And.intro ?_ ?_; exact sideT; (conv => whnf))); (fail_if_success (with_reducible first | refine And.intro (eqv_i ?_) ?_ | refine And.intro (ren_i ?_) ?_)))) | (((with_reducible refine qCall.of ((cP2 (by assumption))) [(1, 1)] [(0, 0), (2, 2), (3, 11), (4, 12), (5, 13), (6, 9), (7, 10)] [] [(8, 14), (9, 15)] [(1, spO (spN false 2 11 12 13 14 15 x4)), (9, .dead), (10, .dead), (14, .uniq), (15, .uniq)] (.tup []) ?hk ?_); (case hk => rfl); (conv => whnf); (repeat (refine And.intro ?_ ?_; exact sideT; (conv => whnf))); (fail_if_success (with_reducible first | refine And.intro (eqv_i ?_) ?_ | refine And.intro (ren_i ?_) ?_)))) | (((with_reducible refine qCall.of ((cP3 (by assumption))) [(1, 1)] [(0, 0), (2, 2), (3, 11), (4, 12), (5, 13), (6, 14), (7, 15)] [] [(8, 16), (9, 17)] [(1, spO (spN false 2 11 12 13 16 17 x5)), (14, .dead), (15, .dead), (16, .uniq), (17, .uniq)] (.tup []) ?hk ?_); (case hk => rfl); (conv => whnf); (repeat (refine And.intro ?_ ?_; exact sideT; (conv => whnf))); (fail_if_success (with_reducible first | refine And.intro (eqv_i ?_) ?_ | refine And.intro (ren_i ?_) ?_))))) <;> (conv => whnf))))
    all_goals (try simp only [bne, Bool.not_eq_true', Bool.not_eq_false', List.length_map] at *)
    all_goals (simp only [Stp.ackLen, Stp.pumpT, Stp.late, Cn.lateB, Cn.sent, *, cond_true, cond_false, Bool.and_true, Bool.true_and, Bool.and_false, Bool.false_and, Bool.not_true, Bool.not_false])
    all_goals first | ((refine qConv.of hB [(1, 1)] [(0, 0), (2, 2), (11, 8), (12, 9), (13, 10), (14, 11), (15, 12)] [] (by rfl) ?_; focus ((conv => whnf); (repeat (refine And.intro ?_ ?_; rotate_left; (conv => whnf))); exact trivial; all_goals (try exact andT)))) | ((refine qConv.of hB [(1, 1)] [(0, 0), (2, 2), (11, 8), (12, 9), (13, 10), (16, 11), (17, 12)] [] (by rfl) ?_; focus ((conv => whnf); (repeat (refine And.intro ?_ ?_; rotate_left; (conv => whnf))); exact trivial; all_goals (try exact andT)))) | ((refine qConv.of hB [(1, 1)] [(0, 0), (2, 2), (11, 8), (12, 9), (13, 10), (9, 11), (10, 12)] [] (by rfl) ?_; focus ((conv => whnf); (repeat (refine And.intro ?_ ?_; rotate_left; (conv => whnf))); exact trivial; all_goals (try exact andT)))) | ((refine qConv.of hB [(1, 1)] [(0, 0), (2, 2), (3, 8), (4, 9), (5, 10), (9, 11), (10, 12)] [] (by rfl) ?_; focus ((conv => whnf); (repeat (refine And.intro ?_ ?_; rotate_left; (conv => whnf))); exact trivial; all_goals (try exact andT)))) | ((refine qConv.of hB [(1, 1)] [(0, 0), (2, 2), (3, 8), (4, 9), (5, 10), (6, 11), (7, 12)] [] (by rfl) ?_; focus ((conv => whnf); (repeat (refine And.intro ?_ ?_; rotate_left; (conv => whnf))); exact trivial; all_goals (try exact andT))))
    all_goals (try exact dt_AhTcpH_ROW)
end Go.Proofs.Ytceohcbokbalhaa

/- A connection takes a segment, is opened: on data. Conditions: lengths. -/
namespace Go.Proofs.Ytceohcbokbalhaa
open Go.RowKit
set_option linter.unusedVariables false
set_option linter.unusedSimpArgs false
set_option maxRecDepth 100000
set_option maxHeartbeats 4000000
abbrev noC : AV := .agg [.val (.int .i64 0), .val (.int .i64 0), .val (.int .i64 0), .val (.int .i64 0), .val (.int .i64 0), .val (.int .i64 0), .val (.int .i64 0), .val (.int .i64 0), .val (.slice none 0 0), .val (.int .i64 0), .val (.slice none 0 0), .val (.bool false), .val (.bool false), .val (.int .i64 0), .val (.int .i64 0), .val (.int .i64 0)]
theorem CnI.cnLen {c : Cn} (h : CnI c) : CnLen c := ⟨by have := h.len; omega, ptsMay h.may⟩
theorem dt_AhTcpI_CV {p : Prop} (h : p := by first | ((first | rfl | exact segs_gg rfl _ | exact parts_gg rfl _ | exact bytes_cells _ | exact parts_ll rfl _); done) | fail) : p := h
def fitsB (c : Cn) (m : Sg) : Bool := sgB m && (m.sp == c.pp && m.dp == c.port)
theorem tcpTake_l (c : Cn) (m : Sg) (h1 : cnB c = true) (h2 : fitsB c m = true) :
    ACallL Try.prog 32 [.agg (cnR 0 c), .agg (sgR 0 m)] [.perm] (.tup [.agg (cnG 1 2 3 (c.takes m).c), .glist 4 7 ((c.takes m).out.map (sgG 5)), gL 6 (c.takes m).told, .val (.int .i64 0)]) [.perm, .uniq, .uniq, .uniq, .uniq, .uniq, .uniq] := by
  have px := pl_bytes c.out
  have py := pl_parts c.parts
  have pz := pl_bytes m.data
  have hI := (cnB_iff c).1 h1
  have cM := tcpMay_l c hI.cnLen
  have cS := segMay_l m
  simp only [fitsB, Bool.and_eq_true, beq_iff_eq] at h2
  obtain ⟨h2, h3, h4⟩ := h2
  rw [h1] at cM
  rw [h2] at cS
  have cO := tcpOwn_l c hI.cnLen
  have cT := take_l c.start m hI h2 (by simp [Cn.start])
  have hy := take_I (x := c.start) hI h2
  unfold Cn.takes
  obtain ⟨y, hy'⟩ : ∃ r, c.start.take m = r := ⟨_, rfl⟩
  rw [hy'] at cT hy ⊢
  have cO2 := tcpOwn_l y.c hy.cnLen
  have e1 : (m.sp != c.pp) = false := by simp [h3]
  have e2 : (m.dp != c.port) = false := by simp [h4]
  unfold Cn.start at cT
  dsimp only [cnR, cnL, cnG, sgR, sgL, spR, spN, spL, oL] at cM cS cO cO2 cT ⊢
  refine ACallL.of_ev mixed Try.func32 rfl (fun a w => Try.call32 a w) (congrArg Array.toList Try.results32) Try.ntmps32 fun B hB => ?_
  ((conv => whnf); (repeat' ((first | (with_reducible first | refine qif_n ?_ | refine qif_t ‹_› ?_ | refine qif_f ‹_› ?_) | ((with_reducible refine qif_t ?_ ?_); focus decide) | ((with_reducible refine qif_f ?_ ?_); focus decide) | (with_reducible refine And.intro (orderOk_i ?ho) ?_; (case ho => kernel_rfl)) | (with_reducible first | refine qif_i (fun _ => ?_) (fun _ => ?_) | refine frcVs_i ?_ | refine frcRs_i ?_) | ((with_reducible refine qCall.pure (cM) ?_ ?_ ?_ ?_); rotate_left 4; exact trivial; exact plT; exact plT) | ((with_reducible refine qCall.pure (cS) ?_ ?_ ?_ ?_); rotate_left 4; exact trivial; exact plT; exact plT)) <;> (conv => whnf))))
  ((with_reducible refine qCall.of (cO) [] [(0, 0)] [] [(1, 4), (2, 5), (3, 6)] [(4, .uniq), (5, .uniq), (6, .uniq)] (.agg (cnG 4 5 6 c)) ?hk ?_); (case hk => rfl); (conv => whnf); (repeat (refine And.intro ?_ ?_; exact sideT; (conv => whnf))); (fail_if_success (with_reducible first | refine And.intro (eqv_i ?_) ?_ | refine And.intro (ren_i ?_) ?_)))
  ((conv => whnf); (repeat' ((first | (with_reducible first | refine qif_n ?_ | refine qif_t ‹_› ?_ | refine qif_f ‹_› ?_) | ((with_reducible refine qif_t ?_ ?_); focus decide) | ((with_reducible refine qif_f ?_ ?_); focus decide) | (with_reducible refine And.intro (orderOk_i ?ho) ?_; (case ho => kernel_rfl)) | (with_reducible first | refine qif_i (fun _ => ?_) (fun _ => ?_) | refine frcVs_i ?_ | refine frcRs_i ?_)) <;> (conv => whnf))))
  ((with_reducible refine qCall.of (cT) [(1, 7)] [(0, 0), (2, 4), (3, 5), (4, 6)] [] [(8, 8), (9, 9), (10, 10), (11, 11), (12, 12)] [(7, spO (spN false 4 8 9 10 11 12 y)), (5, .dead), (6, .dead), (8, .uniq), (9, .uniq), (10, .uniq), (11, .uniq), (12, .uniq)] (.tup []) ?hk ?_); (case hk => rfl); (conv => whnf); (repeat (refine And.intro ?_ ?_; exact sideT; (conv => whnf))); (fail_if_success (with_reducible first | refine And.intro (eqv_i ?_) ?_ | refine And.intro (ren_i ?_) ?_)))
  ((conv => whnf); (repeat' ((first | (with_reducible first | refine qif_n ?_ | refine qif_t ‹_› ?_ | refine qif_f ‹_› ?_) | ((with_reducible refine qif_t ?_ ?_); focus decide) | ((with_reducible refine qif_f ?_ ?_); focus decide) | (with_reducible refine And.intro (orderOk_i ?ho) ?_; (case ho => kernel_rfl)) | (with_reducible first | refine qif_i (fun _ => ?_) (fun _ => ?_) | refine frcVs_i ?_ | refine frcRs_i ?_)) <;> (conv => whnf))))
  ((with_reducible refine qCall.of (cO2) [] [(0, 0), (0, 4), (0, 8), (0, 9)] [] [(1, 13), (2, 14), (3, 15)] [(13, .uniq), (14, .uniq), (15, .uniq)] (.agg (cnG 13 14 15 y.c)) ?hk ?_); (case hk => rfl); (conv => whnf); (repeat (refine And.intro ?_ ?_; exact sideT; (conv => whnf))); (fail_if_success (with_reducible first | refine And.intro (eqv_i ?_) ?_ | refine And.intro (ren_i ?_) ?_)))
  ((conv => whnf); (repeat' ((first | (with_reducible first | refine qif_n ?_ | refine qif_t ‹_› ?_ | refine qif_f ‹_› ?_) | ((with_reducible refine qif_t ?_ ?_); focus decide) | ((with_reducible refine qif_f ?_ ?_); focus decide) | (with_reducible refine And.intro (orderOk_i ?ho) ?_; (case ho => kernel_rfl)) | (with_reducible first | refine qif_i (fun _ => ?_) (fun _ => ?_) | refine frcVs_i ?_ | refine frcRs_i ?_)) <;> (conv => whnf))))
  (refine qConv.of hB [] [(0, 0), (13, 1), (14, 2), (15, 3), (11, 4), (12, 5), (10, 6)] [] (by rfl) ?_; focus ((conv => whnf); (repeat (refine And.intro ?_ ?_; rotate_left; (conv => whnf))); exact trivial; all_goals (try exact andT)))
  all_goals (try exact dt_AhTcpI_CV)
end Go.Proofs.Ytceohcbokbalhaa

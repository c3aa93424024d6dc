/- Contracts and plain laws, one behind the other: AhTcpA, AhTcpP, AhTcpB, AhTcpC, TcpL. Conditions are said at each. -/
import Derived.Test.YtceohcbokbalhaaGreatPkAF
import Derived.Test.YtceohcbokbalhaaGreatPkAD
/- A connection's small functions on data: what was sent, what may be, a segment is sent. Conditions: lengths. -/
namespace Go.Proofs.YtceohcbokbalhaaGreat
open Go.RowKit
set_option linter.unusedVariables false
set_option linter.unusedSimpArgs false
set_option maxRecDepth 100000
set_option maxHeartbeats 4000000
theorem swithin_l (n m : Int) : ACallL Tryz.prog 111 [.val (.int .i64 n), .val (.int .i64 m)] [.perm] (.val (.bool (within n m))) [.perm] := by
  unfold within
  refine ACallL.of_ev mixed Tryz.func111 rfl (fun a w => Tryz.call111 a w) (congrArg Array.toList Tryz.results111) Tryz.ntmps111 fun B hB => ?_; ((conv => whnf); (repeat' ((first | (with_reducible refine qif_t (by assumption) ?_) | (with_reducible refine qif_f (by assumption) ?_) | ((with_reducible refine qif_t ?_ ?_); focus decide) | ((with_reducible refine qif_f ?_ ?_); focus decide) | with_reducible refine qif_i (fun _ => ?_) (fun _ => ?_)) <;> (conv => whnf)))); all_goals (refine qConv.of hB [] [(0, 0)] [] (by rfl) ?_; focus ((conv => whnf); (repeat (refine And.intro ?_ ?_; rotate_left; (conv => whnf))); exact trivial; all_goals (try exact andT))); all_goals ((try congr 1); first | done | omega | (simp_all; done) | (simp_all; omega))
theorem segIP_l (n : Int) : ACallL Tryz.prog 69 [.val (.int .i64 n)] [.perm] (.val (.bool (within n 4294967295))) [.perm] := by
  refine ACallL.of_ev mixed Tryz.func69 rfl (fun a w => Tryz.call69 a w) (congrArg Array.toList Tryz.results69) Tryz.ntmps69 fun B hB => ?_
  ((conv => whnf); (repeat' ((first | (with_reducible first | refine qif_n ?_ | refine qif_t ‹_› ?_ | refine qif_f ‹_› ?_) | ((with_reducible refine qif_t ?_ ?_); focus decide) | ((with_reducible refine qif_f ?_ ?_); focus decide) | (with_reducible refine And.intro (orderOk_i ?ho) ?_; (case ho => kernel_rfl)) | (with_reducible first | refine qif_i (fun _ => ?_) (fun _ => ?_) | refine frcVs_i ?_ | refine frcRs_i ?_) | ((with_reducible refine qCall.pure (swithin_l _ _) ?_ ?_ ?_ ?_); rotate_left 4; exact trivial; exact plT; exact plT)) <;> (conv => whnf))))
  all_goals (refine qConv.of hB [] [(0, 0)] [] (by rfl) ?_; focus ((conv => whnf); (repeat (refine And.intro ?_ ?_; rotate_left; (conv => whnf))); exact trivial; all_goals (try exact andT)))
theorem segPort_l (n : Int) : ACallL Tryz.prog 83 [.val (.int .i64 n)] [.perm] (.val (.bool (within n 65535))) [.perm] := by
  refine ACallL.of_ev mixed Tryz.func83 rfl (fun a w => Tryz.call83 a w) (congrArg Array.toList Tryz.results83) Tryz.ntmps83 fun B hB => ?_
  ((conv => whnf); (repeat' ((first | (with_reducible first | refine qif_n ?_ | refine qif_t ‹_› ?_ | refine qif_f ‹_› ?_) | ((with_reducible refine qif_t ?_ ?_); focus decide) | ((with_reducible refine qif_f ?_ ?_); focus decide) | (with_reducible refine And.intro (orderOk_i ?ho) ?_; (case ho => kernel_rfl)) | (with_reducible first | refine qif_i (fun _ => ?_) (fun _ => ?_) | refine frcVs_i ?_ | refine frcRs_i ?_) | ((with_reducible refine qCall.pure (swithin_l _ _) ?_ ?_ ?_ ?_); rotate_left 4; exact trivial; exact plT; exact plT)) <;> (conv => whnf))))
  all_goals (refine qConv.of hB [] [(0, 0)] [] (by rfl) ?_; focus ((conv => whnf); (repeat (refine And.intro ?_ ?_; rotate_left; (conv => whnf))); exact trivial; all_goals (try exact andT)))
theorem segMay_l (m : Sg) : ACallL Tryz.prog 70 [.agg (sgR 0 m)] [.perm] (.val (.bool (sgB m))) [.perm] := by
  obtain ⟨sp, dp, seq, ack, fl, win, data⟩ := m
  have ld : (data.map bR).length = data.length := by simp
  have pd := pl_bytes data
  unfold sgB
  have e1 : decide (data.length ≤ 1460) = decide ((data.length : Int) ≤ 1460) := by rw [decide_eq_decide]; omega
  dsimp only [sgR, sgL]
  rw [e1, ← ld]
  refine ACallL.of_ev mixed Tryz.func70 rfl (fun a w => Tryz.call70 a w) (congrArg Array.toList Tryz.results70) Tryz.ntmps70 fun B hB => ?_
  ((conv => whnf); (repeat' ((first | (with_reducible first | refine qif_n ?_ | refine qif_t ‹_› ?_ | refine qif_f ‹_› ?_) | ((with_reducible refine qif_t ?_ ?_); focus decide) | ((with_reducible refine qif_f ?_ ?_); focus decide) | (with_reducible refine And.intro (orderOk_i ?ho) ?_; (case ho => kernel_rfl)) | (with_reducible first | refine qif_i (fun _ => ?_) (fun _ => ?_) | refine frcVs_i ?_ | refine frcRs_i ?_) | ((with_reducible refine qCall.pure (swithin_l _ _) ?_ ?_ ?_ ?_); rotate_left 4; exact trivial; exact plT; exact plT) | ((with_reducible refine qCall.pure (segPort_l _) ?_ ?_ ?_ ?_); rotate_left 4; exact trivial; exact plT; exact plT)) <;> (conv => whnf))))
  all_goals (refine qConv.of hB [] [(0, 0)] [] (by rfl) ?_; focus ((conv => whnf); (repeat (refine And.intro ?_ ?_; rotate_left; (conv => whnf))); exact trivial; all_goals (try exact andT)))
  all_goals simp only [*, Bool.true_and, Bool.false_and]
theorem sent_dot (una nx : Int) : ACallL Tryz.prog 123 [.agg [dot, dot, dot, dot, dot, .val (.int .i64 una), .val (.int .i64 nx), dot, dot, dot, dot, dot, dot, dot, dot, dot]] [.perm, .dead] (.val (.int .i64 (wdiff nx una))) [.perm, .dead] := by
  refine ACallL.of_ev mixed Tryz.func123 rfl (fun a w => Tryz.call123 a w) (congrArg Array.toList Tryz.results123) Tryz.ntmps123 fun B hB => ?_
  ((conv => whnf); (repeat' ((first | (with_reducible first | refine qif_n ?_ | refine qif_t ‹_› ?_ | refine qif_f ‹_› ?_) | ((with_reducible refine qif_t ?_ ?_); focus decide) | ((with_reducible refine qif_f ?_ ?_); focus decide) | (with_reducible refine And.intro (orderOk_i ?ho) ?_; (case ho => kernel_rfl)) | (with_reducible first | refine qif_i (fun _ => ?_) (fun _ => ?_) | refine frcVs_i ?_ | refine frcRs_i ?_) | ((with_reducible refine qCall.pure (spanDiff_l _ _) ?_ ?_ ?_ ?_); rotate_left 4; exact trivial; exact plT; exact plT)) <;> (conv => whnf))))
  (refine qConv.of hB [] [(0, 0)] [] (by rfl) ?_; focus ((conv => whnf); (repeat (refine And.intro ?_ ?_; rotate_left; (conv => whnf))); exact trivial; all_goals (try exact andT)))
theorem refSent_dot (una nx : Int) : ACallL Tryz.prog 49 [.agg [dot, dot, dot, dot, dot, .val (.int .i64 una), .val (.int .i64 nx), dot, dot, dot, dot, dot, dot, dot, dot, dot]] [.perm, .dead] (.val (.int .i64 (wdiff nx una))) [.perm, .dead] := by
  refine ACallL.of_ev mixed Tryz.func49 rfl (fun a w => Tryz.call49 a w) (congrArg Array.toList Tryz.results49) Tryz.ntmps49 fun B hB => ?_
  ((conv => whnf); (repeat' ((first | (with_reducible first | refine qif_n ?_ | refine qif_t ‹_› ?_ | refine qif_f ‹_› ?_) | ((with_reducible refine qif_t ?_ ?_); focus decide) | ((with_reducible refine qif_f ?_ ?_); focus decide) | (with_reducible refine And.intro (orderOk_i ?ho) ?_; (case ho => kernel_rfl)) | (with_reducible first | refine qif_i (fun _ => ?_) (fun _ => ?_) | refine frcVs_i ?_ | refine frcRs_i ?_) | ((with_reducible refine qCall.pure (refDiff_l _ _) ?_ ?_ ?_ ?_); rotate_left 4; exact trivial; exact plT; exact plT)) <;> (conv => whnf))))
  (refine qConv.of hB [] [(0, 0)] [] (by rfl) ?_; focus ((conv => whnf); (repeat (refine And.intro ?_ ?_; rotate_left; (conv => whnf))); exact trivial; all_goals (try exact andT)))
theorem blind16 {a0 a1 a2 a3 a4 a7 a8 a9 a10 a11 a12 a13 a14 a15 : AV} (una nx : Int) (h1 : [a0, a1, a2, a3, a4, a7, a8, a9, a10, a11, a12, a13, a14, a15].all AV.one = true) :
    BlindL [.agg [a0, a1, a2, a3, a4, .val (.int .i64 una), .val (.int .i64 nx), a7, a8, a9, a10, a11, a12, a13, a14, a15]] [.agg [dot, dot, dot, dot, dot, .val (.int .i64 una), .val (.int .i64 nx), dot, dot, dot, dot, dot, dot, dot, dot, dot]] := by
  simp only [List.all_cons, List.all_nil, Bool.and_eq_true] at h1
  obtain ⟨b0, b1, b2, b3, b4, b7, b8, b9, b10, b11, b12, b13, b14, b15, -⟩ := h1
  have : BlindL [a0, a1, a2, a3, a4, .val (.int .i64 una), .val (.int .i64 nx), a7, a8, a9, a10, a11, a12, a13, a14, a15] [dot, dot, dot, dot, dot, .val (.int .i64 una), .val (.int .i64 nx), dot, dot, dot, dot, dot, dot, dot, dot, dot] :=
    .cons (.dot _ b0) (.cons (.dot _ b1) (.cons (.dot _ b2) (.cons (.dot _ b3) (.cons (.dot _ b4) (.cons (.val _) (.cons (.val _) (.cons (.dot _ b7) (.cons (.dot _ b8) (.cons (.dot _ b9) (.cons (.dot _ b10) (.cons (.dot _ b11) (.cons (.dot _ b12) (.cons (.dot _ b13) (.cons (.dot _ b14) (.cons (.dot _ b15) .nil)))))))))))))))
  exact .cons (.agg _ _ this.1 this.2) .nil
theorem qCall.sent {una nx : Int} {a0 a1 a2 a3 a4 a7 a8 a9 a10 a11 a12 a13 a14 a15 : AV} {h : List Own} {K : AV → List Nat → List Nat → List Own → Prop} (h1 : [a0, a1, a2, a3, a4, a7, a8, a9, a10, a11, a12, a13, a14, a15].all AV.one = true) (hq : K (.val (.int .i64 (wdiff nx una))) [] [] h) : qCall Tryz.prog 123 [.agg [a0, a1, a2, a3, a4, .val (.int .i64 una), .val (.int .i64 nx), a7, a8, a9, a10, a11, a12, a13, a14, a15]] h K :=
  qCall.blind (sent_dot una nx) (blind16 una nx h1) hq
theorem qCall.rsent {una nx : Int} {a0 a1 a2 a3 a4 a7 a8 a9 a10 a11 a12 a13 a14 a15 : AV} {h : List Own} {K : AV → List Nat → List Nat → List Own → Prop} (h1 : [a0, a1, a2, a3, a4, a7, a8, a9, a10, a11, a12, a13, a14, a15].all AV.one = true) (hq : K (.val (.int .i64 (wdiff nx una))) [] [] h) : qCall Tryz.prog 49 [.agg [a0, a1, a2, a3, a4, .val (.int .i64 una), .val (.int .i64 nx), a7, a8, a9, a10, a11, a12, a13, a14, a15]] h K :=
  qCall.blind (refSent_dot una nx) (blind16 una nx h1) hq
end Go.Proofs.YtceohcbokbalhaaGreat

/- Segments are compared with themselves; how much a script weighs; what fits: on data. Conditions: lengths. -/
namespace Go.Proofs.YtceohcbokbalhaaGreat
open Go.RowKit
set_option linter.unusedVariables false
set_option linter.unusedSimpArgs false
set_option maxRecDepth 100000
set_option maxHeartbeats 4000000
end Go.Proofs.YtceohcbokbalhaaGreat

/- A connection: may it be? Its own copy; a segment is sent. Conditions: lengths. -/
namespace Go.Proofs.YtceohcbokbalhaaGreat
open Go.RowKit
set_option linter.unusedVariables false
set_option linter.unusedSimpArgs false
set_option maxRecDepth 100000
set_option maxHeartbeats 4000000
theorem lmap {α β : Type} (f : α → β) (l : List α) : l.length = (l.map f).length := by simp
theorem numbers_l (c : Cn) (hl : c.out.length ≤ 100000000) : ACallL Tryz.prog 87 [.agg (cnR 0 c)] [.perm] (.val (.bool (numB c))) [.perm] := by
  have px := pl_bytes c.out
  have py := pl_parts c.parts
  have w := IntWalk.i64_in ((c.out.length : Int) + 1) (by omega)
  unfold numB Cn.sent eqTm tm0
  rw [← w, lmap bR c.out, lmap (prt 0) c.parts]
  clear w
  obtain ⟨link, ip, pp, port, st, una, nx, win, out, inx, parts, closing, ⟨on, left, wait, tries⟩⟩ := c
  dsimp only [cnR, cnL] at px py ⊢
  refine ACallL.of_ev mixed Tryz.func87 rfl (fun a w => Tryz.call87 a w) (congrArg Array.toList Tryz.results87) Tryz.ntmps87 fun B hB => ?_
  ((conv => whnf); (repeat' ((first | (with_reducible first | refine qif_n ?_ | refine qif_t ‹_› ?_ | refine qif_f ‹_› ?_) | ((with_reducible refine qif_t ?_ ?_); focus decide) | ((with_reducible refine qif_f ?_ ?_); focus decide) | (with_reducible refine And.intro (orderOk_i ?ho) ?_; (case ho => kernel_rfl)) | (with_reducible first | refine qif_i (fun _ => ?_) (fun _ => ?_) | refine frcVs_i ?_ | refine frcRs_i ?_) | (refine qCall.sent rfl ?_) | (refine qOpen.eq flat48 rfl rfl rfl rfl ?_)) <;> (conv => whnf))))
  all_goals (refine qConv.of hB [] [(0, 0)] [] (by rfl) ?_; focus ((conv => whnf); (repeat (refine And.intro ?_ ?_; rotate_left; (conv => whnf))); exact trivial; all_goals (try exact andT)))
  all_goals (simp only [*, cond_true, cond_false, Bool.true_or, Bool.or_true, Bool.false_or, Bool.or_false, Bool.true_and, Bool.false_and, Bool.and_true, Bool.and_false, Bool.not_true, Bool.not_false])
def mayC (c : Cn) : Bool :=
  !decide (c.link < 0) && (!decide (1099511627776 < c.link) && (within c.ip 4294967295 && (within c.pp 65535 && (within c.port 65535 && (within c.win 65535 && (!decide (c.st < 0) && (!decide (8 < c.st) && (within c.una 4294967295 && (within c.nx 4294967295 &&
    (!decide (8192 < (c.out.length : Int)) && (mayB c.inx c.parts && (tmB c.tm && numB c))))))))))))
theorem mayC_eq (c : Cn) : mayC c = cnB c := by
  unfold mayC cnB
  rw [Bool.eq_iff_iff]
  simp only [within, Bool.and_eq_true, Bool.not_eq_true', decide_eq_false_iff_not, decide_eq_true_eq]
  constructor
  · rintro ⟨h1, h2, h3, h4, h5, h6, h7, h8, h9, h10, h11, h12, h13, h14⟩
    exact ⟨⟨by omega, by omega⟩, h3, h4, h5, h7, h8, h9, h10, h6, h11, h12, h13, h14⟩
  · rintro ⟨h1, h3, h4, h5, h7, h8, h9, h10, h6, h11, h12, h13, h14⟩
    exact ⟨by omega, by omega, h3, h4, h5, h6, h7, h8, h9, h10, h11, h12, h13, h14⟩
theorem tcpMay_l (c : Cn) (hc : CnLen c) : ACallL Tryz.prog 46 [.agg (cnR 0 c)] [.perm] (.val (.bool (cnB c))) [.perm] := by
  have px := pl_bytes c.out
  have py := pl_parts c.parts
  have cN := numbers_l c hc.1
  have cB := may_l c.inx c.parts hc.2
  have cT := tmay_l c.tm
  rw [← mayC_eq]
  unfold mayC
  obtain ⟨bn, hn⟩ : ∃ b, numB c = b := ⟨_, rfl⟩
  obtain ⟨bb, hb⟩ : ∃ b, mayB c.inx c.parts = b := ⟨_, rfl⟩
  obtain ⟨bt, ht⟩ : ∃ b, tmB c.tm = b := ⟨_, rfl⟩
  rw [hn] at cN ⊢
  rw [hb] at cB ⊢
  rw [ht] at cT ⊢
  rw [lmap bR c.out]
  clear hn hb ht hc
  obtain ⟨link, ip, pp, port, st, una, nx, win, out, inx, parts, closing, ⟨on, left, wait, tries⟩⟩ := c
  dsimp only [cnR, cnL, tmC] at px py cN cB cT ⊢
  refine ACallL.of_ev mixed Tryz.func46 rfl (fun a w => Tryz.call46 a w) (congrArg Array.toList Tryz.results46) Tryz.ntmps46 fun B hB => ?_
  ((conv => whnf); (repeat' ((first | (with_reducible first | refine qif_n ?_ | refine qif_t ‹_› ?_ | refine qif_f ‹_› ?_) | ((with_reducible refine qif_t ?_ ?_); focus decide) | ((with_reducible refine qif_f ?_ ?_); focus decide) | (with_reducible refine And.intro (orderOk_i ?ho) ?_; (case ho => kernel_rfl)) | (with_reducible first | refine qif_i (fun _ => ?_) (fun _ => ?_) | refine frcVs_i ?_ | refine frcRs_i ?_) | ((with_reducible refine qCall.pure (segIP_l _) ?_ ?_ ?_ ?_); rotate_left 4; exact trivial; exact plT; exact plT) | ((with_reducible refine qCall.pure (segPort_l _) ?_ ?_ ?_ ?_); rotate_left 4; exact trivial; exact plT; exact plT) | ((with_reducible refine qCall.pure (spanIs_l _) ?_ ?_ ?_ ?_); rotate_left 4; exact trivial; exact plT; exact plT) | ((with_reducible refine qCall.pure (cN) ?_ ?_ ?_ ?_); rotate_left 4; exact trivial; exact plT; exact plT) | ((with_reducible refine qCall.pure (cB) ?_ ?_ ?_ ?_); rotate_left 4; exact trivial; exact plT; exact plT) | ((with_reducible refine qCall.pure (cT) ?_ ?_ ?_ ?_); rotate_left 4; exact trivial; exact plT; exact plT)) <;> (conv => whnf))))
  all_goals (refine qConv.of hB [] [(0, 0)] [] (by rfl) ?_; focus ((conv => whnf); (repeat (refine And.intro ?_ ?_; rotate_left; (conv => whnf))); exact trivial; all_goals (try exact andT)))
  clear cN cB cT px py
  all_goals (simp only [*, cond_true, cond_false, Bool.true_or, Bool.or_true, Bool.false_or, Bool.or_false, Bool.true_and, Bool.false_and, Bool.and_true, Bool.and_false, Bool.not_true, Bool.not_false])
theorem refConn_l (c : Cn) (hc : CnLen c) : ACallL Tryz.prog 21 [.agg (cnR 0 c)] [.perm] (.val (.bool (cnB c))) [.perm] := by
  have px := pl_bytes c.out
  have py := pl_parts c.parts
  have cB := refBuffer_l c.inx c.parts hc.2
  have cT := trefTimer_l c.tm
  have hl := hc.1
  have w := IntWalk.i64_in ((c.out.length : Int) + 1) (by omega)
  unfold cnB numB Cn.sent eqTm tm0
  obtain ⟨bb, hb⟩ : ∃ b, mayB c.inx c.parts = b := ⟨_, rfl⟩
  obtain ⟨bt, ht⟩ : ∃ b, tmB c.tm = b := ⟨_, rfl⟩
  rw [hb] at cB ⊢
  rw [ht] at cT ⊢
  rw [← w, lmap bR c.out, lmap (prt 0) c.parts]
  clear hb ht w hc hl
  have nl := num_l
  simp only [← within.eq_1] at nl
  obtain ⟨link, ip, pp, port, st, una, nx, win, out, inx, parts, closing, ⟨on, left, wait, tries⟩⟩ := c
  dsimp only [cnR, cnL, tmC] at px py cB cT ⊢
  refine ACallL.of_ev mixed Tryz.func21 rfl (fun a w => Tryz.call21 a w) (congrArg Array.toList Tryz.results21) Tryz.ntmps21 fun B hB => ?_
  ((conv => whnf); (repeat' ((first | (with_reducible first | refine qif_n ?_ | refine qif_t ‹_› ?_ | refine qif_f ‹_› ?_) | ((with_reducible refine qif_t ?_ ?_); focus decide) | ((with_reducible refine qif_f ?_ ?_); focus decide) | (with_reducible refine And.intro (orderOk_i ?ho) ?_; (case ho => kernel_rfl)) | (with_reducible first | refine qif_i (fun _ => ?_) (fun _ => ?_) | refine frcVs_i ?_ | refine frcRs_i ?_) | ((with_reducible refine qCall.pure (nl _ _) ?_ ?_ ?_ ?_); rotate_left 4; exact trivial; exact plT; exact plT) | ((with_reducible refine qCall.pure (refWord_l _) ?_ ?_ ?_ ?_); rotate_left 4; exact trivial; exact plT; exact plT) | ((with_reducible refine qCall.pure (cB) ?_ ?_ ?_ ?_); rotate_left 4; exact trivial; exact plT; exact plT) | ((with_reducible refine qCall.pure (cT) ?_ ?_ ?_ ?_); rotate_left 4; exact trivial; exact plT; exact plT) | (refine qCall.rsent rfl ?_) | (refine qOpen.eq flat48 rfl rfl rfl rfl ?_)) <;> (conv => whnf))))
  all_goals (refine qConv.of hB [] [(0, 0)] [] (by rfl) ?_; focus ((conv => whnf); (repeat (refine And.intro ?_ ?_; rotate_left; (conv => whnf))); exact trivial; all_goals (try exact andT)))
  clear cB cT px py nl
  all_goals (simp only [*, cond_true, cond_false, Bool.true_or, Bool.or_true, Bool.false_or, Bool.or_false, Bool.true_and, Bool.false_and, Bool.and_true, Bool.and_false, Bool.not_true, Bool.not_false])
end Go.Proofs.YtceohcbokbalhaaGreat

/- A step of a connection on data: its own copy, a segment is sent, it is closed. Conditions: lengths. -/
namespace Go.Proofs.YtceohcbokbalhaaGreat
open Go.RowKit
set_option linter.unusedVariables false
set_option linter.unusedSimpArgs false
set_option maxRecDepth 100000
set_option maxHeartbeats 4000000
abbrev spL (o p sg tl : AV) (c : Cn) : List AV := [.val (.int .i64 c.link), .val (.int .i64 c.ip), .val (.int .i64 c.pp), .val (.int .i64 c.port), .val (.int .i64 c.st), .val (.int .i64 c.una), .val (.int .i64 c.nx), .val (.int .i64 c.win), o, .val (.int .i64 c.inx), p, .val (.bool c.closing), .val (.bool c.tm.on), .val (.int .i64 c.tm.left), .val (.int .i64 c.tm.wait), .val (.int .i64 c.tm.tries), sg, tl]
abbrev oL : Bool → Nat → List Int → AV
  | true, r, xs => gL r xs
  | false, r, xs => bL r xs
abbrev spN (g : Bool) (o p d t s e : Nat) (x : Stp) : List AV := spL (oL g o x.c.out) (.list p 2 (x.c.parts.map (prg d))) (.glist s 7 (x.out.map (sgG e))) (gL t x.told) x.c
abbrev spR (g : Bool) (s d : Nat) (x : Stp) : List AV := spL (oL g 2 x.c.out) (.list 3 2 (x.c.parts.map (prg 4))) (.glist s 7 (x.out.map (sgG d))) (gL 5 x.told) x.c
abbrev spY (g : Bool) (s d : Nat) (x : Stp) (l : List Sg) : List AV := spL (oL g 2 x.c.out) (.list 3 2 (x.c.parts.map (prg 4))) (.glist s 7 (l.map (sgG d))) (gL 5 x.told) x.c
abbrev spO (row : List AV) : Own := .live ⟨18, 135, [row]⟩
theorem segs_gg {L I F : Prs} {h : Hp} {r r' : Nat} (h0 : I.has r r' = true) (l : List Sg) : RowsRen (qOf L I F) h (l.map (sgG r)) (l.map (sgG r')) :=
  RowsRen.mapF l _ _ fun m _ => .cons (.val _) (.cons (.val _) (.cons (.val _) (.cons (.val _) (.cons (.val _) (.cons (.val _) (.cons (Ren.gg h0 m.data) .nil))))))
theorem Ren.sgs {L I F : Prs} {h : Hp} {r r' d d' : Nat} (h0 : I.has r r' = true) (h1 : I.has d d' = true) (l : List Sg) : Ren (qOf L I F) h (.glist r 7 (l.map (sgG d))) (.glist r' 7 (l.map (sgG d'))) := by
  obtain ⟨a, b, c⟩ := segs_gg (L := L) (I := I) (F := F) (h := h) h1 l
  exact .glist _ _ _ _ _ ((Prs.has_iff I r r').1 h0) a b c
theorem Ren.pgl {L I F : Prs} {h : Hp} {r r' d d' : Nat} (h0 : I.has r r' = true) (h1 : I.has d d' = true) (l : List Pt) : Ren (qOf L I F) h (.list r 2 (l.map (prg d))) (.list r' 2 (l.map (prg d'))) := by
  obtain ⟨a, b, c⟩ := parts_gg (L := L) (I := I) (F := F) (h := h) h1 l
  exact .list _ _ _ _ _ ((Prs.has_iff I r r').1 h0) a b c
theorem Ren.oo {L I F : Prs} {h : Hp} {r r' : Nat} (h0 : I.has r r' = true) (g : Bool) (xs : List Int) : Ren (qOf L I F) h (oL g r xs) (oL g r' xs) := by
  cases g
  · exact Ren.ll h0 xs
  · exact Ren.gg h0 xs
theorem Ren.sgs1 {L I F : Prs} {h : Hp} {r r' d d' e : Nat} {row : List AV} {m : Sg} {l : List Sg} (h0 : I.has r r' = true) (h1 : I.has d d' = true) (hr : row = sgG e m) (h2 : I.has e d' = true) : Ren (qOf L I F) h (.glist r 7 (l.map (sgG d) ++ [row])) (.glist r' 7 ((l ++ [m]).map (sgG d'))) := by
  subst hr
  obtain ⟨a, b, c⟩ := (segs_gg (L := L) (I := I) (F := F) (h := h) h1 l).app (segs_gg (L := L) (I := I) (F := F) (h := h) h2 [m])
  rw [← List.map_append] at a b c
  exact .glist _ _ _ _ _ ((Prs.has_iff I r r').1 h0) a b c
theorem dt_AhTcpC_ROW {p : Prop} (h : p := by first | ((first | rfl | (refine RowsRen.one ?_; (repeat (refine Cells.cons ?_ ?_; focus (first | exact .val _ | exact Ren.gg rfl _ | exact Ren.ll rfl _ | exact Ren.g2 rfl _ | exact Ren.oo rfl _ _ | exact Ren.vnil _ _ | exact Ren.vgnil _ _ | exact Ren.sgs rfl rfl _ | exact Ren.sgs1 rfl rfl rfl rfl | exact Ren.pgl rfl rfl _ | fail))); exact Cells.nil) | exact segs_gg rfl _ | exact parts_gg rfl _ | exact bytes_cells _); done) | fail) : p := h
theorem send_l (g : Bool) (x : Stp) (seq fl : Int) (data : List Int) (hd : data.length ≤ 100000000) (hs : x.out.length ≤ 100000000) :
    ACallL Tryz.prog 130 [.ptr 1 0 0, .val (.int .i64 seq), .val (.int .i64 fl), bL 2 data] [.perm, spO (spR g 6 7 x), .perm, .perm, .perm, .perm, .uniq, .uniq]
      (.tup []) [.perm, spO (spR g 8 9 (x.seg seq fl data)), .perm, .perm, .perm, .perm, .dead, .dead, .uniq, .uniq] := by
  dsimp only [spR, spL, Stp.seg] at hs ⊢
  cases g
  all_goals
    dsimp only [oL]
    refine ACallL.of_ev mixed Tryz.func130 rfl (fun a w => Tryz.call130 a w) (congrArg Array.toList Tryz.results130) Tryz.ntmps130 fun B hB => ?_
    ((conv => whnf); (repeat' ((first | (with_reducible first | refine qif_n ?_ | refine qif_t ‹_› ?_ | refine qif_f ‹_› ?_) | ((with_reducible refine qif_t ?_ ?_); focus decide) | ((with_reducible refine qif_f ?_ ?_); focus decide) | (with_reducible refine And.intro (orderOk_i ?ho) ?_; (case ho => kernel_rfl)) | (with_reducible first | refine qif_i (fun _ => ?_) (fun _ => ?_) | refine frcVs_i ?_ | refine frcRs_i ?_)) <;> (conv => whnf))))
    ((with_reducible refine qCall.fresh (fun r => gL r data) (clone_l data hd) [(0, 2)] [] ?hk ?_); (case hk => rfl); (conv => whnf); (repeat (refine And.intro ?_ ?_; exact sideT; (conv => whnf))); (fail_if_success (with_reducible first | refine And.intro (eqv_i ?_) ?_ | refine And.intro (ren_i ?_) ?_)))
    ((conv => whnf); (repeat' ((first | (with_reducible first | refine qif_n ?_ | refine qif_t ‹_› ?_ | refine qif_f ‹_› ?_) | ((with_reducible refine qif_t ?_ ?_); focus decide) | ((with_reducible refine qif_f ?_ ?_); focus decide) | (with_reducible refine And.intro (orderOk_i ?ho) ?_; (case ho => kernel_rfl)) | (with_reducible first | refine qif_i (fun _ => ?_) (fun _ => ?_) | refine frcVs_i ?_ | refine frcRs_i ?_) | (refine qCase_i (apG (nb := 72) rfl rfl rfl rfl rfl rfl rfl rfl rfl rfl (by decide) rfl (by simp; omega)) ?_)) <;> (conv => whnf))))
    (refine qConv.of hB [(1, 1)] [(0, 0), (2, 2), (3, 3), (4, 4), (5, 5), (10, 8), (7, 9), (8, 9)] [] (by rfl) ?_; focus ((conv => whnf); (repeat (refine And.intro ?_ ?_; rotate_left; (conv => whnf))); exact trivial; all_goals (try exact andT)))
    all_goals (try exact dt_AhTcpC_ROW)
theorem closed_l (g : Bool) (x : Stp) :
    ACallL Tryz.prog 102 [.ptr 1 0 0] [.perm, spO (spR g 6 7 x), .perm, .perm, .perm, .perm, .perm, .perm]
      (.tup []) [.perm, spO (spR g 6 7 x.shut), .perm, .perm, .perm, .perm, .perm, .perm] := by
  dsimp only [spR, spL]
  cases g
  all_goals
    dsimp only [oL]
    refine ACallL.of_ev mixed Tryz.func102 rfl (fun a w => Tryz.call102 a w) (congrArg Array.toList Tryz.results102) Tryz.ntmps102 fun B hB => ?_
    ((conv => whnf); (repeat' ((first | (with_reducible first | refine qif_n ?_ | refine qif_t ‹_› ?_ | refine qif_f ‹_› ?_) | ((with_reducible refine qif_t ?_ ?_); focus decide) | ((with_reducible refine qif_f ?_ ?_); focus decide) | (with_reducible refine And.intro (orderOk_i ?ho) ?_; (case ho => kernel_rfl)) | (with_reducible first | refine qif_i (fun _ => ?_) (fun _ => ?_) | refine frcVs_i ?_ | refine frcRs_i ?_)) <;> (conv => whnf))))
    (refine qConv.of hB [(1, 1)] [(0, 0), (2, 2), (3, 3), (4, 4), (5, 5), (6, 6), (7, 7)] [] (by rfl) ?_; focus ((conv => whnf); (repeat (refine And.intro ?_ ?_; rotate_left; (conv => whnf))); exact trivial; all_goals (try exact andT)))
    all_goals (try exact dt_AhTcpC_ROW)
theorem stepDone_l (x : Stp) :
    ACallL Tryz.prog 95 [.ptr 1 0 0] [.perm, spO (spR true 6 7 x), .perm, .perm, .perm, .perm, .perm, .perm]
      (.tup [.agg (cnL (gL 2 x.c.out) (.list 3 2 (x.c.parts.map (prg 4))) x.c), .glist 6 7 (x.out.map (sgG 7)), .val (.int .i64 0)]) [.perm, spO (spR true 6 7 x), .perm, .perm, .perm, .perm, .perm, .perm] := by
  dsimp only [spR, spL, oL, cnL]
  refine ACallL.of_ev mixed Tryz.func95 rfl (fun a w => Tryz.call95 a w) (congrArg Array.toList Tryz.results95) Tryz.ntmps95 fun B hB => ?_
  ((conv => whnf); (repeat' ((first | (with_reducible first | refine qif_n ?_ | refine qif_t ‹_› ?_ | refine qif_f ‹_› ?_) | ((with_reducible refine qif_t ?_ ?_); focus decide) | ((with_reducible refine qif_f ?_ ?_); focus decide) | (with_reducible refine And.intro (orderOk_i ?ho) ?_; (case ho => kernel_rfl)) | (with_reducible first | refine qif_i (fun _ => ?_) (fun _ => ?_) | refine frcVs_i ?_ | refine frcRs_i ?_)) <;> (conv => whnf))))
  (refine qConv.of hB [(1, 1)] [(0, 0), (2, 2), (3, 3), (4, 4), (5, 5), (6, 6), (7, 7)] [] (by rfl) ?_; focus ((conv => whnf); (repeat (refine And.intro ?_ ?_; rotate_left; (conv => whnf))); exact trivial; all_goals (try exact andT)))
  all_goals (try exact dt_AhTcpC_ROW)
theorem tcpOwn_l (c : Cn) (hc : CnLen c) : ACallL Tryz.prog 92 [.agg (cnR 0 c)] [.perm] (.agg (cnG 1 2 3 c)) [.perm, .uniq, .uniq, .uniq] := by
  obtain ⟨ho, hp⟩ := hc
  dsimp only [cnR, cnL, cnG]
  refine ACallL.of_ev mixed Tryz.func92 rfl (fun a w => Tryz.call92 a w) (congrArg Array.toList Tryz.results92) Tryz.ntmps92 fun B hB => ?_
  ((conv => whnf); (repeat' ((first | (with_reducible first | refine qif_n ?_ | refine qif_t ‹_› ?_ | refine qif_f ‹_› ?_) | ((with_reducible refine qif_t ?_ ?_); focus decide) | ((with_reducible refine qif_f ?_ ?_); focus decide) | (with_reducible refine And.intro (orderOk_i ?ho) ?_; (case ho => kernel_rfl)) | (with_reducible first | refine qif_i (fun _ => ?_) (fun _ => ?_) | refine frcVs_i ?_ | refine frcRs_i ?_)) <;> (conv => whnf))))
  ((with_reducible refine qCall.fresh (fun r => gL r c.out) (clone_l c.out ho) [(0, 0)] [] ?hk ?_); (case hk => rfl); (conv => whnf); (repeat (refine And.intro ?_ ?_; exact sideT; (conv => whnf))); (fail_if_success (with_reducible first | refine And.intro (eqv_i ?_) ?_ | refine And.intro (ren_i ?_) ?_)))
  ((conv => whnf); (repeat' ((first | (with_reducible first | refine qif_n ?_ | refine qif_t ‹_› ?_ | refine qif_f ‹_› ?_) | ((with_reducible refine qif_t ?_ ?_); focus decide) | ((with_reducible refine qif_f ?_ ?_); focus decide) | (with_reducible refine And.intro (orderOk_i ?ho) ?_; (case ho => kernel_rfl)) | (with_reducible first | refine qif_i (fun _ => ?_) (fun _ => ?_) | refine frcVs_i ?_ | refine frcRs_i ?_)) <;> (conv => whnf))))
  ((with_reducible refine qCall.of (own_l c.inx c.parts hp) [] [(0, 0)] [] [(1, 4), (2, 5)] [(4, .uniq), (5, .uniq)] (.agg [.val (.int .i64 c.inx), .glist 4 2 (c.parts.map (prg 5))]) ?hk ?_); (case hk => rfl); (conv => whnf); (repeat (refine And.intro ?_ ?_; exact sideT; (conv => whnf))); (fail_if_success (with_reducible first | refine And.intro (eqv_i ?_) ?_ | refine And.intro (ren_i ?_) ?_)))
  ((conv => whnf); (repeat' ((first | (with_reducible first | refine qif_n ?_ | refine qif_t ‹_› ?_ | refine qif_f ‹_› ?_) | ((with_reducible refine qif_t ?_ ?_); focus decide) | ((with_reducible refine qif_f ?_ ?_); focus decide) | (with_reducible refine And.intro (orderOk_i ?ho) ?_; (case ho => kernel_rfl)) | (with_reducible first | refine qif_i (fun _ => ?_) (fun _ => ?_) | refine frcVs_i ?_ | refine frcRs_i ?_)) <;> (conv => whnf))))
  (refine qConv.of hB [] [(0, 0), (3, 1), (4, 2), (5, 3)] [] (by rfl) ?_; focus ((conv => whnf); (repeat (refine And.intro ?_ ?_; rotate_left; (conv => whnf))); exact trivial; all_goals (try exact andT)))
  all_goals first | rfl | exact bytes_cells _ | exact parts_gg rfl _
end Go.Proofs.YtceohcbokbalhaaGreat

/- A connection: plain law of what it sends. Conditions: bounds of numbers. -/
namespace Go.Proofs.YtceohcbokbalhaaGreat
open Go.RowKit
set_option linter.unusedVariables false
set_option linter.unusedSimpArgs false
structure PumpOk (c : Cn) : Prop where
  una : 0 ≤ c.una ∧ c.una ≤ 4294967295
  nx : 0 ≤ c.nx ∧ c.nx ≤ 4294967295
  s0 : 0 ≤ c.sent
  s1 : c.sent ≤ c.out.length
  len : c.out.length ≤ 8192
  win : 0 ≤ c.win ∧ c.win ≤ 65535
theorem wdiff_add {a b n : Int} (h0 : 0 ≤ wdiff b a) (h1 : 0 ≤ n) (h2 : wdiff b a + n < 1000000) : wdiff (wadd b n) a = wdiff b a + n := by
  unfold wdiff wadd at *; omega
theorem pumpN_le {c : Cn} (h : PumpOk c) : c.pumpN ≤ 536 ∧ c.sent + c.pumpN ≤ c.out.length ∧ c.sent + c.pumpN ≤ 8192 := by
  have := h.len
  unfold Cn.pumpN Cn.len
  omega
theorem pump1_sent {y : Stp} (h : PumpOk y.c) (hn : 0 < y.c.pumpN) : y.pump1.c.sent = y.c.sent + y.c.pumpN := by
  have h1 := h.s0
  have h2 := pumpN_le h
  show wdiff (wadd y.c.nx y.c.pumpN) y.c.una = _
  unfold Cn.sent at *
  exact wdiff_add (by omega) (by omega) (by omega)
theorem pump1_ok {y : Stp} (h : PumpOk y.c) (hn : 0 < y.c.pumpN) : PumpOk y.pump1.c := by
  have h1 := pump1_sent h hn
  have h2 := pumpN_le h
  have h3 := wadd_bd y.c.nx y.c.pumpN
  refine ⟨h.una, ⟨h3.1, by show wadd y.c.nx y.c.pumpN ≤ _; omega⟩, by rw [h1]; have := h.s0; omega, by rw [h1]; exact h2.2.1, h.len, h.win⟩
theorem pumpGo_fuel : ∀ (k k' : Nat) (y : Stp), PumpOk y.c → (y.c.len - y.c.sent).toNat ≤ k → (y.c.len - y.c.sent).toNat ≤ k' → pumpGo k y = pumpGo k' y
  | 0, 0, y, _, _, _ => rfl
  | 0, k' + 1, y, h, h1, _ => by
    have : y.c.pumpN ≤ 0 := by have := h.s1; unfold Cn.pumpN Cn.len at *; omega
    rw [pumpGo, pumpGo, if_pos this]
  | k + 1, 0, y, h, _, h1 => by
    have : y.c.pumpN ≤ 0 := by have := h.s1; unfold Cn.pumpN Cn.len at *; omega
    rw [pumpGo, pumpGo, if_pos this]
  | k + 1, k' + 1, y, h, h1, h2 => by
    rw [pumpGo, pumpGo]
    by_cases hn : y.c.pumpN ≤ 0
    · rw [if_pos hn, if_pos hn]
    · rw [if_neg hn, if_neg hn]
      have h3 := pump1_sent h (by omega)
      have h4 : y.pump1.c.len = y.c.len := rfl
      exact pumpGo_fuel k k' _ (pump1_ok h (by omega)) (by rw [h3, h4]; omega) (by rw [h3, h4]; omega)
theorem pumpGo_step {y : Stp} (h : PumpOk y.c) (hn : 0 < y.c.pumpN) : pumpGo y.c.out.length y = pumpGo y.pump1.c.out.length y.pump1 := by
  have h2 := h.s0
  have h3 := pump1_sent h hn
  have h4 := pumpN_le h
  have h5 : y.pump1.c.out = y.c.out := rfl
  obtain ⟨k, hk⟩ : ∃ k, y.c.out.length = k + 1 := ⟨y.c.out.length - 1, by omega⟩
  have e : pumpGo y.c.out.length y = pumpGo k y.pump1 := by rw [hk, pumpGo, if_neg (by omega)]
  rw [e]
  have h6 : y.pump1.c.len = k + 1 := by show (y.c.out.length : Int) = k + 1; omega
  exact pumpGo_fuel _ _ _ (pump1_ok h hn) (by rw [h3, h6]; omega) (by rw [h3, h6, h5]; omega)
theorem pumpGo_end {y : Stp} (hn : y.c.pumpN ≤ 0) : ∀ k, pumpGo k y = y
  | 0 => rfl
  | k + 1 => by rw [pumpGo, if_pos hn]
theorem ptsMay {n : Int} {ps : List Pt} (h : mayB n ps = true) : PtsOk ps := by
  obtain ⟨_, h8, hin⟩ := mayB_in h
  refine ⟨by omega, fun p hp => ?_⟩
  have := hin p hp
  omega
theorem lead_end {w : Win} (h : w.length = 2048) : lead w ≤ 2048 ∧ isS w (lead w) = false := ⟨by have := lead_le w; omega, lead_no w⟩
theorem reaS_may {n : Int} {ps : List Pt} (h : mayB n ps = true) (s : Int) (xs : List Int) : mayB (reaS n ps s xs).1 (reaS n ps s xs).2.1 = true := by
  unfold reaS
  obtain ⟨W, hW⟩ : ∃ W, winS n ps s xs = W := ⟨_, rfl⟩
  have lW : W.length = 2048 := by rw [← hW, winS_len]
  rw [hW]
  by_cases h8 : 8 < (runsT n W (lead W) 2048).length
  · rw [if_pos h8]; exact h
  · rw [if_neg h8]
    obtain ⟨hl, hs⟩ := lead_end lW
    have hr := (runsT_runs (nx := n) lW _ (lead W) rfl hl).may lW (t := lead W) (Nat.le_refl _) hs
    rw [Int.sub_self] at hr
    simp only [mayB, within_wadd, hr, Bool.true_and, Bool.and_true, decide_eq_true_eq]
    omega
theorem reaS_told (n : Int) (ps : List Pt) (s : Int) (xs : List Int) : (reaS n ps s xs).2.2.length ≤ 2048 := by
  unfold reaS
  split
  · simp
  · have := lead_end (winS_len n ps s xs)
    rw [seg_len (by rw [winS_len]; exact this.1)]
    omega
structure NumI (c : Cn) : Prop where
  z : c.st = 0 → c.out = [] ∧ c.parts = [] ∧ c.tm = tm0
  a : c.st = 1 → c.sent = 1
  b : c.st = 4 ∨ c.st = 8 → c.closing = true ∧ c.sent = 0 ∧ c.out = []
  d : c.st = 3 ∨ c.st = 6 ∨ c.st = 7 → c.closing = true ∧ c.sent = c.out.length + 1
  e : c.st = 2 ∨ c.st = 5 → 0 ≤ c.sent ∧ c.sent ≤ c.out.length
theorem eqTm_iff (a b : Tm) : eqTm a b = true ↔ a = b := by
  obtain ⟨on, left, wait, tries⟩ := a
  obtain ⟨on', left', wait', tries'⟩ := b
  simp only [eqTm, Bool.and_eq_true, beq_iff_eq, Tm.mk.injEq, and_true]
theorem numB_iff {c : Cn} (hs : 0 ≤ c.st ∧ c.st ≤ 8) : numB c = true ↔ NumI c := by
  have cases9 : c.st = 0 ∨ c.st = 1 ∨ c.st = 2 ∨ c.st = 3 ∨ c.st = 4 ∨ c.st = 5 ∨ c.st = 6 ∨ c.st = 7 ∨ c.st = 8 := by omega
  have nil : ∀ {α : Type} (l : List α), ((l.length : Int) = 0) ↔ l = [] := fun l => by rw [← List.length_eq_zero_iff]; omega
  constructor
  · intro h
    refine ⟨fun e => ?_, fun e => ?_, fun e => ?_, fun e => ?_, fun e => ?_⟩
    · simp only [numB, e, beq_self_eq_true, cond_true, Bool.and_eq_true, beq_iff_eq, nil, eqTm_iff] at h
      exact h
    · simp only [numB, e, beq_self_eq_true, cond_true, show ((1 : Int) == 0) = false by decide, cond_false, beq_iff_eq] at h
      exact h
    · rcases e with e | e <;> simp only [numB, e, beq_self_eq_true, cond_true, show ((4 : Int) == 0) = false by decide, show ((4 : Int) == 1) = false by decide, show ((8 : Int) == 0) = false by decide, show ((8 : Int) == 1) = false by decide, show ((8 : Int) == 4) = false by decide, Bool.true_or, Bool.or_true, cond_false, Bool.and_eq_true, beq_iff_eq, nil] at h <;> exact h
    · rcases e with e | e | e <;> simp only [numB, e] at h <;> simpa [Bool.and_eq_true] using h
    · rcases e with e | e <;> simp only [numB, e] at h <;> simpa [Bool.and_eq_true] using h
  · rintro ⟨z, a, b, d, e⟩
    rcases cases9 with h | h | h | h | h | h | h | h | h
    · obtain ⟨h1, h2, h3⟩ := z h; simp only [numB, h, h1, h2, h3]; rfl
    · have := a h; simp only [numB, h, this]; rfl
    · have := e (.inl h); simp only [numB, h]; simpa using this
    · have := d (.inl h); simp only [numB, h]; simpa using this
    · have := b (.inl h); simp only [numB, h]; simpa using this
    · have := e (.inr h); simp only [numB, h]; simpa using this
    · have := d (.inr (.inl h)); simp only [numB, h]; simpa using this
    · have := d (.inr (.inr h)); simp only [numB, h]; simpa using this
    · have := b (.inr h); simp only [numB, h]; simpa using this
structure CnF (c : Cn) : Prop where
  link : 0 ≤ c.link ∧ c.link ≤ 1099511627776
  ip : 0 ≤ c.ip ∧ c.ip ≤ 4294967295
  pp : 0 ≤ c.pp ∧ c.pp ≤ 65535
  port : 0 ≤ c.port ∧ c.port ≤ 65535
  st : 0 ≤ c.st ∧ c.st ≤ 8
  una : 0 ≤ c.una ∧ c.una ≤ 4294967295
  nx : 0 ≤ c.nx ∧ c.nx ≤ 4294967295
  win : 0 ≤ c.win ∧ c.win ≤ 65535
  len : c.out.length ≤ 8192
  may : mayB c.inx c.parts = true
  tm : tmB c.tm = true
structure CnI (c : Cn) : Prop extends CnF c where
  num : NumI c
theorem cnB_iff (c : Cn) : cnB c = true ↔ CnI c := by
  simp only [cnB, within, Bool.and_eq_true, decide_eq_true_eq, Bool.not_eq_true', decide_eq_false_iff_not]
  constructor
  · rintro ⟨h1, h2, h3, h4, h5, h6, h7, h8, h9, h10, h11, h12, h13⟩
    have hs : 0 ≤ c.st ∧ c.st ≤ 8 := by omega
    exact ⟨⟨h1, h2, h3, h4, hs, h7, h8, h9, by omega, h11, h12⟩, (numB_iff hs).1 h13⟩
  · rintro ⟨⟨h1, h2, h3, h4, hs, h7, h8, h9, h10, h11, h12⟩, h13⟩
    exact ⟨h1, h2, h3, h4, by omega, by omega, h7, h8, h9, by omega, h11, h12, (numB_iff hs).2 h13⟩
theorem tm0_ok : tmB tm0 = true := by decide
theorem tm3_ok : tmB (tmNew 3) = true := by decide
theorem tm20_ok : tmB (tmNew 20) = true := by decide
theorem may_nil {n : Int} {ps : List Pt} (h : mayB n ps = true) : mayB n [] = true := by
  have := (mayB_in h).1
  simp only [mayB, mayGo, within, Bool.and_eq_true, decide_eq_true_eq, and_true]
  exact ⟨by omega, by simp⟩
theorem may_next {n : Int} {k : Int} : mayB (wadd n k) [] = true := by
  simp only [mayB, mayGo, within_wadd, Bool.and_true, Bool.true_and, decide_eq_true_eq]
  simp
theorem CnF.shut {c : Cn} (h : CnF c) : CnI c.shut :=
  ⟨⟨h.link, h.ip, h.pp, h.port, ⟨by show (0 : Int) ≤ 0; decide, by show (0 : Int) ≤ 8; decide⟩, h.una, h.nx, h.win, by simp [Cn.shut], may_nil h.may, tm0_ok⟩,
    ⟨fun _ => ⟨rfl, rfl, rfl⟩, fun e => by simp [Cn.shut] at e, fun e => by simp [Cn.shut] at e, fun e => by simp [Cn.shut] at e, fun e => by simp [Cn.shut] at e⟩⟩
theorem CnI.pumpOk {c : Cn} (h : CnI c) (ht : c.talks = true) : PumpOk c := by
  have : c.st = 2 ∨ c.st = 5 := by simpa [Cn.talks] using ht
  obtain ⟨h1, h2⟩ := h.num.e this
  exact ⟨h.una, h.nx, h1, h2, h.len, h.win⟩
end Go.Proofs.YtceohcbokbalhaaGreat

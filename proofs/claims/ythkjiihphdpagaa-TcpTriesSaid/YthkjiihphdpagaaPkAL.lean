/- Contracts and plain laws, one behind the other: AhTcpO, AhTcpQ, TcpL3, AhTcpZ, TcpTri, AhTries, Arg16T. Conditions are said at each. -/
import Derived.Test.YthkjiihphdpagaaAhTcpK
import Derived.Test.YthkjiihphdpagaaPkAF
import Derived.Test.YthkjiihphdpagaaPkAH
import Derived.Test.YthkjiihphdpagaaPkAA
/- A connection is opened: on data. No condition but lengths. -/
namespace Go.Proofs.Ythkjiihphdpagaa
open Go.RowKit
set_option linter.unusedVariables false
set_option linter.unusedSimpArgs false
set_option maxRecDepth 100000
set_option maxHeartbeats 4000000

theorem fl_22 : ∀ n : Fin 64, (bits .and .i64 ((n.val : Nat) : Int) 22 == 2) = (!(bits .and .i64 ((n.val : Nat) : Int) 2 == 0) && (bits .and .i64 ((n.val : Nat) : Int) 20 == 0)) := by decide +kernel
theorem fl_open {fl : Int} (h : 0 ≤ fl ∧ fl ≤ 63) : (bits .and .i64 fl 22 == 2) = (!flN fl 2 && flN fl 20) := by
  have := fl_22 ⟨fl.toNat, by omega⟩
  rw [show ((fl.toNat : Nat) : Int) = fl by omega] at this
  exact this
theorem sgB_fl {m : Sg} (h : sgB m = true) : 0 ≤ m.fl ∧ m.fl ≤ 63 := (sgB_t h).2.2.2.2.1
theorem Ren.fzS {L I F : Prs} {h : Hp} {b r d d' : Nat} {e : TypeId} {m : Sg} (h0 : F.has b r = true) (hb : h b = .live ⟨7, e, [sgG d m]⟩) (h1 : I.has d d' = true) : Ren (qOf L I F) h (.sl b 0 1) (.glist r 7 ([m].map (sgG d'))) := by
  obtain ⟨x, y, z⟩ := segs_gg (L := L) (I := I) (F := F) (h := h) h1 [m]
  exact .frzg _ _ _ _ _ _ ((Prs.has_iff F b r).1 h0) hb x y z
theorem sendO_l (c : Cn) (seq fl : Int) : ACallL Try.prog 33 [.ptr 1 0 0, .val (.int .i64 seq), .val (.int .i64 fl), .val (.slice none 0 0)] [.perm, spO (spL (.val (.slice none 0 0)) (.val (.slice none 0 0)) (.val (.slice none 0 0)) (.val (.slice none 0 0)) c)]
    (.tup []) [.perm, spO (spL (.val (.slice none 0 0)) (.val (.slice none 0 0)) (.glist 2 7 ([(⟨c.port, c.pp, seq, c.inx, fl, 2048, []⟩ : Sg)].map (sgG 3))) (.val (.slice none 0 0)) c), .uniq, .uniq] := by
  have cC := clone_l [] (by decide)
  dsimp only [spL]
  refine ACallL.of_ev mixed Try.func33 rfl (fun a w => Try.call33 a w) (congrArg Array.toList Try.results33) Try.ntmps33 fun B hB => ?_
  ((conv => whnf); (repeat' ((first | (with_reducible first | refine qif_n ?_ | refine qif_t ‹_› ?_ | refine qif_f ‹_› ?_) | ((with_reducible refine qif_t ?_ ?_); focus decide) | ((with_reducible refine qif_f ?_ ?_); focus decide) | (with_reducible refine And.intro (orderOk_i ?ho) ?_; (case ho => kernel_rfl)) | (with_reducible refine qif_i (fun _ => ?_) (fun _ => ?_)) | (with_reducible refine frcVs_i ?_) | (with_reducible refine frcRs_i ?_)) <;> (conv => whnf))))
  ((with_reducible refine qCall.fresh (fun r => gL r []) (cC) [(0, 0)] [] ?hk ?_); (case hk => rfl); (conv => whnf); (repeat (refine And.intro ?_ ?_; (focus (exact sideT)); (conv => whnf))); (fail_if_success (with_reducible refine And.intro (eqv_i ?_) ?_)); (fail_if_success (with_reducible refine And.intro (ren_i ?_) ?_)))
  ((conv => whnf); (repeat' ((first | (with_reducible first | refine qif_n ?_ | refine qif_t ‹_› ?_ | refine qif_f ‹_› ?_) | ((with_reducible refine qif_t ?_ ?_); focus decide) | ((with_reducible refine qif_f ?_ ?_); focus decide) | (with_reducible refine And.intro (orderOk_i ?ho) ?_; (case ho => kernel_rfl)) | (with_reducible refine qif_i (fun _ => ?_) (fun _ => ?_)) | (with_reducible refine frcVs_i ?_) | (with_reducible refine frcRs_i ?_)) <;> (conv => whnf))))
  (refine qConv.of hB [(1, 1)] [(0, 0), (2, 3)] [(4, 2)] (by rfl) ?_; focus ((conv => whnf); (repeat (refine And.intro ?_ ?_; rotate_left; (conv => whnf))); exact trivial; all_goals (try exact andT)))
  all_goals (try (refine RowsRen.one ?_; (repeat (refine Cells.cons ?_ ?_; focus (first | exact .val _ | exact Ren.fzS rfl rfl rfl | fail))); exact Cells.nil))
theorem doneO_l (c : Cn) (l : List Sg) : ACallL Try.prog 34 [.ptr 1 0 0] [.perm, spO (spL (.val (.slice none 0 0)) (.val (.slice none 0 0)) (.glist 2 7 (l.map (sgG 3))) (.val (.slice none 0 0)) c), .perm, .perm]
    (.tup [.agg (cnL (.val (.slice none 0 0)) (.val (.slice none 0 0)) c), .glist 2 7 (l.map (sgG 3)), .val (.int .i64 0)]) [.perm, spO (spL (.val (.slice none 0 0)) (.val (.slice none 0 0)) (.glist 2 7 (l.map (sgG 3))) (.val (.slice none 0 0)) c), .perm, .perm] := by
  dsimp only [spL, cnL]
  refine ACallL.of_ev mixed Try.func34 rfl (fun a w => Try.call34 a w) (congrArg Array.toList Try.results34) Try.ntmps34 fun B hB => ?_
  ((conv => whnf); (repeat' ((first | (with_reducible first | refine qif_n ?_ | refine qif_t ‹_› ?_ | refine qif_f ‹_› ?_) | ((with_reducible refine qif_t ?_ ?_); focus decide) | ((with_reducible refine qif_f ?_ ?_); focus decide) | (with_reducible refine And.intro (orderOk_i ?ho) ?_; (case ho => kernel_rfl)) | (with_reducible refine qif_i (fun _ => ?_) (fun _ => ?_)) | (with_reducible refine frcVs_i ?_) | (with_reducible refine frcRs_i ?_)) <;> (conv => whnf))))
  (refine qConv.of hB [(1, 1)] [(0, 0), (2, 2), (3, 3)] [] (by rfl) ?_; focus ((conv => whnf); (repeat (refine And.intro ?_ ?_; rotate_left; (conv => whnf))); exact trivial; all_goals (try exact andT)))
  all_goals (try (first | exact segs_gg rfl _ | (refine RowsRen.one ?_; (repeat (refine Cells.cons ?_ ?_; focus (first | exact .val _ | exact Ren.sgs rfl rfl _ | fail))); exact Cells.nil)))
theorem tcpOpen_l (link ip iss : Int) (m : Sg) (h : openB link ip iss m = true) : ACallL Try.prog 9 [.val (.int .i64 link), .val (.int .i64 ip), .val (.int .i64 iss), .agg (sgR 0 m)] [.perm]
    (.tup [.agg (cnL (.val (.slice none 0 0)) (.val (.slice none 0 0)) (opens link ip iss m).c), .glist 1 7 ((opens link ip iss m).out.map (sgG 2)), .val (.int .i64 0)]) [.perm, .uniq, .uniq] := by
  have pz := pl_bytes m.data
  have cS := segMay_l m
  unfold openB at h
  simp only [Bool.and_eq_true] at h
  obtain ⟨h1, h2, h3, h4, h5⟩ := h
  have h6 : (bits .and .i64 m.fl 22 != 2) = false := by
    have := fl_open (sgB_fl h4)
    rw [h5.2, Bool.and_true, h5.1] at this
    simpa using this
  have h7 : decide (link < 0) = false := by simp only [within, decide_eq_true_eq] at h1; simp; omega
  have h8 : decide (1099511627776 < link) = false := by simp only [within, decide_eq_true_eq] at h1; simp; omega
  rw [h4] at cS
  unfold opens Stp.seg Cn.start
  obtain ⟨c, hc⟩ : ∃ c : Cn, c = ⟨link, ip, m.sp, m.dp, 1, iss, wadd iss 1, m.win, [], wadd m.seq 1, [], false, tmNew 3⟩ := ⟨_, rfl⟩
  have cW := sendO_l c iss 18
  have cD := doneO_l c [⟨c.port, c.pp, iss, c.inx, 18, 2048, []⟩]
  subst hc
  dsimp only [sgR, sgL, spL, cnL, tmNew] at cS cW cD ⊢
  refine ACallL.of_ev mixed Try.func9 rfl (fun a w => Try.call9 a w) (congrArg Array.toList Try.results9) Try.ntmps9 fun B hB => ?_
  ((conv => whnf); (repeat' ((first | (with_reducible first | refine qif_n ?_ | refine qif_t ‹_› ?_ | refine qif_f ‹_› ?_) | ((with_reducible refine qif_t ?_ ?_); focus decide) | ((with_reducible refine qif_f ?_ ?_); focus decide) | (with_reducible refine And.intro (orderOk_i ?ho) ?_; (case ho => kernel_rfl)) | (with_reducible refine qif_i (fun _ => ?_) (fun _ => ?_)) | (with_reducible refine frcVs_i ?_) | (with_reducible refine frcRs_i ?_) | ((with_reducible refine qCall.pure (segIP_l _) ?_ ?_ ?_ ?_); rotate_left 3; rotate_left; exact trivial; exact plT; exact plT) | ((with_reducible refine qCall.pure (spanIs_l _) ?_ ?_ ?_ ?_); rotate_left 3; rotate_left; exact trivial; exact plT; exact plT) | ((with_reducible refine qCall.pure (cS) ?_ ?_ ?_ ?_); rotate_left 3; rotate_left; exact trivial; exact plT; exact plT) | ((with_reducible refine qCall.pure (spanAdd_l _ _) ?_ ?_ ?_ ?_); rotate_left 3; rotate_left; exact trivial; exact plT; exact plT) | ((with_reducible refine qCall.pure (tnew_l _) ?_ ?_ ?_ ?_); rotate_left 3; rotate_left; exact trivial; exact plT; exact plT)) <;> (conv => whnf))))
  ((with_reducible refine qCall.of (cW) [(1, 3)] [(0, 0)] [] [(2, 4), (3, 5)] [(3, spO (spL (.val (.slice none 0 0)) (.val (.slice none 0 0)) (.glist 4 7 ([(⟨m.dp, m.sp, iss, wadd m.seq 1, 18, 2048, []⟩ : Sg)].map (sgG 5))) (.val (.slice none 0 0)) (⟨link, ip, m.sp, m.dp, 1, iss, wadd iss 1, m.win, [], wadd m.seq 1, [], false, tmNew 3⟩ : Cn))), (4, .uniq), (5, .uniq)] (.tup []) ?hk ?_); (case hk => rfl); (conv => whnf); (repeat (refine And.intro ?_ ?_; (focus (exact sideT)); (conv => whnf))); (fail_if_success (with_reducible refine And.intro (eqv_i ?_) ?_)); (fail_if_success (with_reducible refine And.intro (ren_i ?_) ?_)))
  ((conv => whnf); (repeat' ((first | (with_reducible first | refine qif_n ?_ | refine qif_t ‹_› ?_ | refine qif_f ‹_› ?_) | ((with_reducible refine qif_t ?_ ?_); focus decide) | ((with_reducible refine qif_f ?_ ?_); focus decide) | (with_reducible refine And.intro (orderOk_i ?ho) ?_; (case ho => kernel_rfl)) | (with_reducible refine qif_i (fun _ => ?_) (fun _ => ?_)) | (with_reducible refine frcVs_i ?_) | (with_reducible refine frcRs_i ?_)) <;> (conv => whnf))))
  ((with_reducible refine qCall.of (cD) [(1, 3)] [(0, 0), (2, 4), (3, 5)] [] [] [(3, spO (spL (.val (.slice none 0 0)) (.val (.slice none 0 0)) (.glist 4 7 ([(⟨m.dp, m.sp, iss, wadd m.seq 1, 18, 2048, []⟩ : Sg)].map (sgG 5))) (.val (.slice none 0 0)) (⟨link, ip, m.sp, m.dp, 1, iss, wadd iss 1, m.win, [], wadd m.seq 1, [], false, tmNew 3⟩ : Cn)))] (.tup [.agg (cnL (.val (.slice none 0 0)) (.val (.slice none 0 0)) (⟨link, ip, m.sp, m.dp, 1, iss, wadd iss 1, m.win, [], wadd m.seq 1, [], false, tmNew 3⟩ : Cn)), .glist 4 7 ([(⟨m.dp, m.sp, iss, wadd m.seq 1, 18, 2048, []⟩ : Sg)].map (sgG 5)), .val (.int .i64 0)]) ?hk ?_); (case hk => rfl); (conv => whnf); (repeat (refine And.intro ?_ ?_; (focus (exact sideT)); (conv => whnf))); (fail_if_success (with_reducible refine And.intro (eqv_i ?_) ?_)); (fail_if_success (with_reducible refine And.intro (ren_i ?_) ?_)))
  ((conv => whnf); (repeat' ((first | (with_reducible first | refine qif_n ?_ | refine qif_t ‹_› ?_ | refine qif_f ‹_› ?_) | ((with_reducible refine qif_t ?_ ?_); focus decide) | ((with_reducible refine qif_f ?_ ?_); focus decide) | (with_reducible refine And.intro (orderOk_i ?ho) ?_; (case ho => kernel_rfl)) | (with_reducible refine qif_i (fun _ => ?_) (fun _ => ?_)) | (with_reducible refine frcVs_i ?_) | (with_reducible refine frcRs_i ?_)) <;> (conv => whnf))))
  (refine qConv.of hB [] [(0, 0), (4, 1), (5, 2)] [] (by rfl) ?_; focus ((conv => whnf); (repeat (refine And.intro ?_ ?_; rotate_left; (conv => whnf))); exact trivial; all_goals (try exact andT)))
  all_goals (try (first | rfl | exact segs_gg rfl _))
end Go.Proofs.Ythkjiihphdpagaa

/- The statement wakes; how much a script weighs; what fits: on data. Conditions: lengths. -/
namespace Go.Proofs.Ythkjiihphdpagaa
open Go.RowKit
set_option linter.unusedVariables false
set_option linter.unusedSimpArgs false
set_option maxRecDepth 100000
set_option maxHeartbeats 4000000

theorem dt_AhTcpQ_ROWQ {p : Prop} (h : p := by first | ((first | rfl | (refine RowsRen.one ?_; (repeat (refine Cells.cons ?_ ?_; focus (first | exact .val _ | exact Ren.gg rfl _ | exact Ren.ll rfl _ | exact Ren.g2 rfl _ | exact Ren.vnil _ _ | exact Ren.vgnil _ _ | exact Ren.sgs rfl rfl _ | exact Ren.pgl rfl rfl _ | fail))); exact Cells.nil) | exact segs_gg rfl _ | exact parts_gg rfl _ | exact bytes_cells _); done) | fail) : p := h
/-- Open, its answer as the others' -/
theorem tcpOpenA_l (link ip iss : Int) (m : Sg) (h : openB link ip iss m = true) : ACallL Try.prog 9 [.val (.int .i64 link), .val (.int .i64 ip), .val (.int .i64 iss), .agg (sgR 0 m)] [.perm] (stA (opens link ip iss m)) stH := by
  have cO := tcpOpen_l link ip iss m h
  have e1 : (opens link ip iss m).c.out = [] := rfl
  have e2 : (opens link ip iss m).c.parts = [] := rfl
  obtain ⟨y, hy⟩ : ∃ r, opens link ip iss m = r := ⟨_, rfl⟩
  rw [hy] at cO e1 e2 ⊢
  have pz := pl_bytes m.data
  unfold stA
  dsimp only [sgR, sgL, cnL, cnG] at cO ⊢
  rw [e1, e2]
  refine ACallL.of_q (fun a w => Try.call9 a w) fun B hB => ?_
  ((with_reducible refine qCall.of (cO) [] [(0, 0)] [] [(1, 1), (2, 2)] [(1, .uniq), (2, .uniq)] (.tup [.agg (cnL (.val (.slice none 0 0)) (.val (.slice none 0 0)) y.c), .glist 1 7 (y.out.map (sgG 2)), .val (.int .i64 0)]) ?hk ?_); (case hk => rfl); (conv => whnf); (repeat (refine And.intro ?_ ?_; (focus (exact sideT)); (conv => whnf))); (fail_if_success (with_reducible refine And.intro (eqv_i ?_) ?_)); (fail_if_success (with_reducible refine And.intro (ren_i ?_) ?_)))
  (refine qConv.of hB [] [(0, 0), (1, 4), (2, 5)] [] (by rfl) ?_; focus ((conv => whnf); (repeat (refine And.intro ?_ ?_; rotate_left; (conv => whnf))); exact trivial; all_goals (try exact andT)))
  all_goals (try exact dt_AhTcpQ_ROWQ)
theorem num16_l (n : Int) : ACallL Try.prog 13 [.val (.int .i64 n)] [.perm] (.val (.int .i64 n)) [.perm] := by
  refine ACallL.of_ev mixed Try.func13 rfl (fun a w => Try.call13 a w) (congrArg Array.toList Try.results13) Try.ntmps13 fun B hB => ?_
  ((conv => whnf); (repeat' ((first | (with_reducible first | refine qif_n ?_ | refine qif_t ‹_› ?_ | refine qif_f ‹_› ?_) | ((with_reducible refine qif_t ?_ ?_); focus decide) | ((with_reducible refine qif_f ?_ ?_); focus decide) | (with_reducible refine And.intro (orderOk_i ?ho) ?_; (case ho => kernel_rfl)) | (with_reducible refine qif_i (fun _ => ?_) (fun _ => ?_)) | (with_reducible refine frcVs_i ?_) | (with_reducible refine frcRs_i ?_)) <;> (conv => whnf))))
  all_goals (refine qConv.of hB [] [(0, 0)] [] (by rfl) ?_; focus ((conv => whnf); (repeat (refine And.intro ?_ ?_; rotate_left; (conv => whnf))); exact trivial; all_goals (try exact andT)))
end Go.Proofs.Ythkjiihphdpagaa

/- What a step sends and tells may be; the connection's names stay: plain law. No condition but that it may be one. -/
namespace Go.Proofs.Ythkjiihphdpagaa
open Go.RowKit
set_option linter.unusedVariables false
set_option linter.unusedSimpArgs false

/-- a segment of a connection's -/
structure SegI (c : Cn) (m : Sg) : Prop where
  ok : sgB m = true
  sp : m.sp = c.port
  dp : m.dp = c.pp
  len : m.data.length ≤ 536
/-- a step of a connection's, with so many segments -/
structure StI (c : Cn) (n : Nat) (y : Stp) : Prop where
  port : 0 ≤ c.port ∧ c.port ≤ 65535
  pp : 0 ≤ c.pp ∧ c.pp ≤ 65535
  e1 : y.c.link = c.link
  e2 : y.c.ip = c.ip
  e3 : y.c.pp = c.pp
  e4 : y.c.port = c.port
  inx : 0 ≤ y.c.inx ∧ y.c.inx ≤ 4294967295
  segs : ∀ m ∈ y.out, SegI c m
  cnt : y.out.length ≤ n
  told : y.told.length ≤ 2048
theorem CnF.inx {c : Cn} (h : CnF c) : 0 ≤ c.inx ∧ c.inx ≤ 4294967295 := (mayB_in h.may).1
theorem StI.start {c : Cn} (h : CnF c) : StI c 0 c.start := ⟨h.port, h.pp, rfl, rfl, rfl, rfl, h.inx, fun m hm => (by cases hm), Nat.le_refl _, by simp [Cn.start]⟩
theorem StI.le {c : Cn} {n k : Nat} {y : Stp} (h : StI c n y) (hk : n ≤ k) : StI c k y := ⟨h.port, h.pp, h.e1, h.e2, h.e3, h.e4, h.inx, h.segs, by have := h.cnt; omega, h.told⟩
/-- another connection, of the same names -/
theorem StI.put {c : Cn} {n : Nat} {y : Stp} (h : StI c n y) (c' : Cn) (e1 : c'.link = y.c.link) (e2 : c'.ip = y.c.ip) (e3 : c'.pp = y.c.pp) (e4 : c'.port = y.c.port) (e5 : 0 ≤ c'.inx ∧ c'.inx ≤ 4294967295) : StI c n { y with c := c' } :=
  ⟨h.port, h.pp, e1.trans h.e1, e2.trans h.e2, e3.trans h.e3, e4.trans h.e4, e5, h.segs, h.cnt, h.told⟩
theorem StI.more {c c' : Cn} {n : Nat} {y : Stp} (h : StI c n y) (m : Sg) (hm : SegI c m) (e1 : c'.link = y.c.link) (e2 : c'.ip = y.c.ip) (e3 : c'.pp = y.c.pp) (e4 : c'.port = y.c.port) (e5 : c'.inx = y.c.inx) : StI c (n + 1) { c := c', out := y.out ++ [m], told := y.told } :=
  ⟨h.port, h.pp, e1.trans h.e1, e2.trans h.e2, e3.trans h.e3, e4.trans h.e4, by show 0 ≤ c'.inx ∧ c'.inx ≤ 4294967295; rw [e5]; exact h.inx, fun x hx => by
    rcases List.mem_append.1 hx with hx | hx
    · exact h.segs x hx
    · rw [List.mem_singleton.1 hx]; exact hm, by have := h.cnt; simp; omega, h.told⟩
theorem StI.segI {c : Cn} {n : Nat} {y : Stp} (h : StI c n y) {seq ack fl win : Int} {data : List Int} (hq : 0 ≤ seq ∧ seq ≤ 4294967295) (ha : 0 ≤ ack ∧ ack ≤ 4294967295) (hf : 0 ≤ fl ∧ fl ≤ 63) (hw : 0 ≤ win ∧ win ≤ 65535) (hd : data.length ≤ 536) : SegI c ⟨y.c.port, y.c.pp, seq, ack, fl, win, data⟩ := by
  refine ⟨?_, h.e4, h.e3, hd⟩
  have := h.port
  have := h.pp
  simp only [sgB, within, Bool.and_eq_true, decide_eq_true_eq, h.e3, h.e4]
  refine ⟨by omega, by omega, by omega, by omega, by omega, by omega, by omega⟩
theorem StI.seg {c : Cn} {n : Nat} {y : Stp} (h : StI c n y) {seq fl : Int} {data : List Int} (hq : 0 ≤ seq ∧ seq ≤ 4294967295) (hf : 0 ≤ fl ∧ fl ≤ 63) (hd : data.length ≤ 536) : StI c (n + 1) (y.seg seq fl data) :=
  h.more _ (h.segI hq h.inx hf (by omega) hd) rfl rfl rfl rfl rfl
theorem StI.acks {c : Cn} {n : Nat} {y : Stp} (h : StI c n y) (hq : 0 ≤ y.c.nx ∧ y.c.nx ≤ 4294967295) : StI c (n + 1) y.acks := h.seg hq (by omega) (by simp)
theorem StI.shut {c : Cn} {n : Nat} {y : Stp} (h : StI c n y) : StI c n y.shut := h.put y.c.shut rfl rfl rfl rfl h.inx
theorem sgB_w {m : Sg} (h : sgB m = true) : (0 ≤ m.sp ∧ m.sp ≤ 65535) ∧ (0 ≤ m.dp ∧ m.dp ≤ 65535) ∧ (0 ≤ m.seq ∧ m.seq ≤ 4294967295) ∧ (0 ≤ m.ack ∧ m.ack ≤ 4294967295) ∧ (0 ≤ m.fl ∧ m.fl ≤ 63) ∧ (0 ≤ m.win ∧ m.win ≤ 65535) ∧ m.data.length ≤ 1460 := by
  simpa only [sgB, within, Bool.and_eq_true, decide_eq_true_eq] using h
theorem bif_p {α : Type} {p : α → Prop} {b : Bool} {x y : α} (h1 : b = true → p x) (h2 : b = false → p y) : p (bif b then x else y) := by cases b <;> simp [h1, h2]
theorem StI.ack {c : Cn} {n : Nat} {y : Stp} (h : StI c n y) {m : Sg} (hm : sgB m = true) (hq : 0 ≤ y.c.nx ∧ y.c.nx ≤ 4294967295) : StI c (n + 1) (y.ack m).1 := by
  obtain ⟨_, _, _, ha, _⟩ := sgB_w hm
  have hp : ∀ c' : Cn, c'.link = y.c.link → c'.ip = y.c.ip → c'.pp = y.c.pp → c'.port = y.c.port → c'.inx = y.c.inx → StI c (n + 1) ({ y with c := c' }) := fun c' a b d e f => (h.put c' a b d e (by rw [f]; exact h.inx)).le (by omega)
  unfold Stp.ack
  refine bif_p (p := fun r : Stp × Bool => StI c (n + 1) r.1) (fun _ => bif_p (p := fun r : Stp × Bool => StI c (n + 1) r.1) (fun _ => ?_) (fun _ => ?_)) (fun _ => bif_p (p := fun r : Stp × Bool => StI c (n + 1) r.1) (fun _ => ?_) (fun _ => bif_p (p := fun r : Stp × Bool => StI c (n + 1) r.1) (fun _ => ?_) (fun _ => bif_p (p := fun r : Stp × Bool => StI c (n + 1) r.1) (fun _ => bif_p (p := fun r : Stp × Bool => StI c (n + 1) r.1) (fun _ => ?_) (fun _ => bif_p (p := fun r : Stp × Bool => StI c (n + 1) r.1) (fun _ => ?_) (fun _ => bif_p (p := fun r : Stp × Bool => StI c (n + 1) r.1) (fun _ => ?_) (fun _ => ?_)))) (fun _ => ?_))))
  · exact hp _ rfl rfl rfl rfl rfl
  · exact h.more (c' := y.c) _ (h.segI ha (by omega) (by omega) (by omega) (by simp)) rfl rfl rfl rfl rfl
  · exact h.acks hq
  · exact hp _ rfl rfl rfl rfl rfl
  · exact hp _ rfl rfl rfl rfl rfl
  · exact hp _ rfl rfl rfl rfl rfl
  · exact hp _ rfl rfl rfl rfl rfl
  · exact hp _ rfl rfl rfl rfl rfl
  · exact hp _ rfl rfl rfl rfl rfl
theorem data_same (y : Stp) (m : Sg) : (y.data m).c.link = y.c.link ∧ (y.data m).c.ip = y.c.ip ∧ (y.data m).c.pp = y.c.pp ∧ (y.data m).c.port = y.c.port ∧ (y.data m).out = y.out ∧ (y.told.length ≤ 2048 → (y.data m).told.length ≤ 2048) := by
  unfold Stp.data
  refine bif_p (p := fun r : Stp => r.c.link = y.c.link ∧ r.c.ip = y.c.ip ∧ r.c.pp = y.c.pp ∧ r.c.port = y.c.port ∧ r.out = y.out ∧ (y.told.length ≤ 2048 → r.told.length ≤ 2048)) (fun _ => ?_) (fun _ => ⟨rfl, rfl, rfl, rfl, rfl, id⟩)
  have ht : (y.dataIn m).told.length ≤ 2048 := reaS_told _ _ _ _
  unfold Stp.dataFin
  have hp : ∀ r : Stp, r.c.link = y.c.link → r.c.ip = y.c.ip → r.c.pp = y.c.pp → r.c.port = y.c.port → r.out = y.out → r.told = (y.dataIn m).told → r.c.link = y.c.link ∧ r.c.ip = y.c.ip ∧ r.c.pp = y.c.pp ∧ r.c.port = y.c.port ∧ r.out = y.out ∧ (y.told.length ≤ 2048 → r.told.length ≤ 2048) :=
    fun r a b d e f g => ⟨a, b, d, e, f, fun _ => by rw [g]; exact ht⟩
  have h0 := hp (y.dataIn m) rfl rfl rfl rfl rfl rfl
  refine bif_p (p := fun r : Stp => r.c.link = y.c.link ∧ r.c.ip = y.c.ip ∧ r.c.pp = y.c.pp ∧ r.c.port = y.c.port ∧ r.out = y.out ∧ (y.told.length ≤ 2048 → r.told.length ≤ 2048)) (fun _ => h0) (fun _ => bif_p (p := fun r : Stp => r.c.link = y.c.link ∧ r.c.ip = y.c.ip ∧ r.c.pp = y.c.pp ∧ r.c.port = y.c.port ∧ r.out = y.out ∧ (y.told.length ≤ 2048 → r.told.length ≤ 2048)) (fun _ => bif_p (p := fun r : Stp => r.c.link = y.c.link ∧ r.c.ip = y.c.ip ∧ r.c.pp = y.c.pp ∧ r.c.port = y.c.port ∧ r.out = y.out ∧ (y.told.length ≤ 2048 → r.told.length ≤ 2048)) (fun _ => h0) (fun _ => bif_p (p := fun r : Stp => r.c.link = y.c.link ∧ r.c.ip = y.c.ip ∧ r.c.pp = y.c.pp ∧ r.c.port = y.c.port ∧ r.out = y.out ∧ (y.told.length ≤ 2048 → r.told.length ≤ 2048)) (fun _ => ?_) (fun _ => bif_p (p := fun r : Stp => r.c.link = y.c.link ∧ r.c.ip = y.c.ip ∧ r.c.pp = y.c.pp ∧ r.c.port = y.c.port ∧ r.out = y.out ∧ (y.told.length ≤ 2048 → r.told.length ≤ 2048)) (fun _ => ?_) (fun _ => ?_)))) (fun _ => h0))
  all_goals exact hp _ rfl rfl rfl rfl rfl rfl
theorem StI.data {c : Cn} {n : Nat} {y : Stp} (h : StI c n y) (m : Sg) (hI : CnI y.c) : StI c n (y.data m) := by
  obtain ⟨a, b, d, e, f, g⟩ := data_same y m
  exact ⟨h.port, h.pp, a.trans h.e1, b.trans h.e2, d.trans h.e3, e.trans h.e4, (data_I hI m).inx, by rw [f]; exact h.segs, by rw [f]; exact h.cnt, g h.told⟩
theorem StI.pump1 {c : Cn} {n : Nat} {y : Stp} (h : StI c n y) (hP : PumpOk y.c) : StI c (n + 1) y.pump1 := by
  have := pumpN_le hP
  exact h.more (c' := { y.c with nx := wadd y.c.nx y.c.pumpN }) _ (h.segI hP.nx h.inx (by omega) (by omega) (by simp; omega)) rfl rfl rfl rfl rfl
theorem StI.pumpGo {c : Cn} : ∀ (k : Nat) {n : Nat} {y : Stp}, StI c n y → PumpOk y.c → StI c (n + k) (pumpGo k y)
  | 0, n, y, h, _ => h
  | k + 1, n, y, h, hP => by
    rw [Go.Proofs.Ythkjiihphdpagaa.pumpGo]
    by_cases hn : y.c.pumpN ≤ 0
    · rw [if_pos hn]; exact h.le (by omega)
    · rw [if_neg hn]
      exact (StI.pumpGo k (h.pump1 hP) (pump1_ok hP (by omega))).le (by omega)
theorem StI.pump {c : Cn} {n : Nat} {y : Stp} (h : StI c n y) (hI : CnI y.c) (ht : y.c.talks = true) : StI c (n + y.c.out.length + 1) y.pump := by
  have hP := hI.pumpOk ht
  have h1 := h.pumpGo y.c.out.length hP
  obtain ⟨hP1, he⟩ := pumpGo_ok y.c.out.length hP
  unfold Stp.pump
  obtain ⟨z, hz⟩ : ∃ z, Go.Proofs.Ythkjiihphdpagaa.pumpGo y.c.out.length y = z := ⟨_, rfl⟩
  rw [hz] at h1 hP1 ⊢
  have h2 : StI c (n + y.c.out.length + 1) z.pump2 := by
    unfold Stp.pump2
    by_cases hc : z.c.closing = true ∧ z.c.sent = z.c.len
    · rw [if_pos hc]
      exact h1.more (c' := { z.c with nx := wadd z.c.nx 1, st := if z.c.st = 2 then 3 else 7 }) _ (h1.segI hP1.nx h1.inx (by omega) (by omega) (by simp)) rfl rfl rfl rfl rfl
    · rw [if_neg hc]; exact h1.le (by omega)
  unfold Stp.pump3
  split
  · exact h2.put _ rfl rfl rfl rfl h2.inx
  · exact h2
theorem StI.late {c : Cn} {n : Nat} {y : Stp} (h : StI c n y) : StI c n y.late := by
  unfold Stp.late
  exact bif_p (fun _ => h.put _ rfl rfl rfl rfl h.inx) (fun _ => h)
theorem StI.of {c c' : Cn} {n : Nat} {y : Stp} (h : StI c' n y) (e1 : c'.link = c.link) (e2 : c'.ip = c.ip) (e3 : c'.pp = c.pp) (e4 : c'.port = c.port) : StI c n y :=
  ⟨by rw [← e4]; exact h.port, by rw [← e3]; exact h.pp, h.e1.trans e1, h.e2.trans e2, h.e3.trans e3, h.e4.trans e4, h.inx, fun m hm => ⟨(h.segs m hm).ok, (h.segs m hm).sp.trans e4, (h.segs m hm).dp.trans e3, (h.segs m hm).len⟩, h.cnt, h.told⟩
end Go.Proofs.Ythkjiihphdpagaa

/- The statement wakes; how much a script weighs; what fits: on data. Conditions: lengths. -/
namespace Go.Proofs.Ythkjiihphdpagaa
open Go.RowKit
set_option linter.unusedVariables false
set_option linter.unusedSimpArgs false
set_option maxRecDepth 100000
set_option maxHeartbeats 4000000

theorem wake_open : opens 1 7 100 (⟨5, 1883, 50, 0, 2, 1000, []⟩ : Sg) = (⟨⟨1, 7, 5, 1883, 1, 100, 101, 1000, [], 51, [], false, ⟨true, 3, 3, 0⟩⟩, [⟨1883, 5, 100, 51, 18, 2048, []⟩], []⟩ : Stp) := by kernel_rfl
theorem wake_take : (Cn.takes (Stp.c (⟨⟨1, 7, 5, 1883, 1, 100, 101, 1000, [], 51, [], false, ⟨true, 3, 3, 0⟩⟩, [⟨1883, 5, 100, 51, 18, 2048, []⟩], []⟩ : Stp)) (⟨5, 1883, 51, 101, 16, 1000, []⟩ : Sg)).out = [] ∧ (Cn.takes (Stp.c (⟨⟨1, 7, 5, 1883, 1, 100, 101, 1000, [], 51, [], false, ⟨true, 3, 3, 0⟩⟩, [⟨1883, 5, 100, 51, 18, 2048, []⟩], []⟩ : Stp)) (⟨5, 1883, 51, 101, 16, 1000, []⟩ : Sg)).c.st = 2 := by
  constructor <;> kernel_rfl
theorem wakes16_l : ACallL Try.prog 14 [] [.perm] (.val (.bool true)) [.perm] := by
  have cO := tcpOpenA_l 1 7 100 (⟨5, 1883, 50, 0, 2, 1000, []⟩ : Sg) (by decide +kernel)
  rw [wake_open] at cO
  have cT := tcpTake_l (Stp.c (⟨⟨1, 7, 5, 1883, 1, 100, 101, 1000, [], 51, [], false, ⟨true, 3, 3, 0⟩⟩, [⟨1883, 5, 100, 51, 18, 2048, []⟩], []⟩ : Stp)) (⟨5, 1883, 51, 101, 16, 1000, []⟩ : Sg) (by decide +kernel) (by decide +kernel)
  obtain ⟨h1, h2⟩ := wake_take
  obtain ⟨y, hy⟩ : ∃ r, Cn.takes (Stp.c (⟨⟨1, 7, 5, 1883, 1, 100, 101, 1000, [], 51, [], false, ⟨true, 3, 3, 0⟩⟩, [⟨1883, 5, 100, 51, 18, 2048, []⟩], []⟩ : Stp)) (⟨5, 1883, 51, 101, 16, 1000, []⟩ : Sg) = r := ⟨_, rfl⟩
  rw [hy] at cT h1 h2
  rw [h1] at cT
  unfold stA at cO
  dsimp only [cnG, cnR, cnL, sgG, sgR, sgL, tmC] at cO cT
  rw [h2] at cT
  refine ACallL.of_ev mixed Try.func14 rfl (fun a w => Try.call14 a w) (congrArg Array.toList Try.results14) Try.ntmps14 fun B hB => ?_
  ((conv => whnf); (repeat' ((first | (with_reducible first | refine qif_n ?_ | refine qif_t ‹_› ?_ | refine qif_f ‹_› ?_) | ((with_reducible refine qif_t ?_ ?_); focus decide) | ((with_reducible refine qif_f ?_ ?_); focus decide) | (with_reducible refine And.intro (orderOk_i ?ho) ?_; (case ho => kernel_rfl)) | (with_reducible refine qif_i (fun _ => ?_) (fun _ => ?_)) | (with_reducible refine frcVs_i ?_) | (with_reducible refine frcRs_i ?_) | ((with_reducible refine qCall.pure (num16_l _) ?_ ?_ ?_ ?_); rotate_left 3; rotate_left; exact trivial; exact plT; exact plT)) <;> (conv => whnf))))
  ((with_reducible refine qCall.of (cO) [] [(0, 0)] [] [(1, 1), (2, 2), (3, 3), (4, 4), (5, 5)] [(1, .uniq), (2, .uniq), (3, .uniq), (4, .uniq), (5, .uniq)] (stA (⟨⟨1, 7, 5, 1883, 1, 100, 101, 1000, [], 51, [], false, ⟨true, 3, 3, 0⟩⟩, [⟨1883, 5, 100, 51, 18, 2048, []⟩], []⟩ : Stp)) ?hk ?_); (case hk => rfl); (conv => whnf); (repeat (refine And.intro ?_ ?_; (focus (exact sideT)); (conv => whnf))); (fail_if_success (with_reducible refine And.intro (eqv_i ?_) ?_)); (fail_if_success (with_reducible refine And.intro (ren_i ?_) ?_)))
  ((conv => whnf); (repeat' ((first | (with_reducible first | refine qif_n ?_ | refine qif_t ‹_› ?_ | refine qif_f ‹_› ?_) | ((with_reducible refine qif_t ?_ ?_); focus decide) | ((with_reducible refine qif_f ?_ ?_); focus decide) | (with_reducible refine And.intro (orderOk_i ?ho) ?_; (case ho => kernel_rfl)) | (with_reducible refine qif_i (fun _ => ?_) (fun _ => ?_)) | (with_reducible refine frcVs_i ?_) | (with_reducible refine frcRs_i ?_) | ((with_reducible refine qCall.pure (num16_l _) ?_ ?_ ?_ ?_); rotate_left 3; rotate_left; exact trivial; exact plT; exact plT)) <;> (conv => whnf))))
  ((with_reducible refine qCall.of (cT) [] [(0, 0), (0, 1), (0, 2), (0, 3)] [] [(1, 7), (2, 8), (3, 9), (4, 10), (5, 11), (6, 12)] [(7, .uniq), (8, .uniq), (9, .uniq), (10, .uniq), (11, .uniq), (12, .uniq)] (.tup [.agg (cnL (gL 7 y.c.out) (.list 8 2 (y.c.parts.map (prg 9))) ({ y.c with st := 2 } : Cn)), .glist 10 7 [], gL 12 y.told, .val (.int .i64 0)]) ?hk ?_); (case hk => rfl); (conv => whnf); (repeat (refine And.intro ?_ ?_; (focus (exact sideT)); (conv => whnf))); (fail_if_success (with_reducible refine And.intro (eqv_i ?_) ?_)); (fail_if_success (with_reducible refine And.intro (ren_i ?_) ?_)))
  ((conv => whnf); (repeat' ((first | (with_reducible first | refine qif_n ?_ | refine qif_t ‹_› ?_ | refine qif_f ‹_› ?_) | ((with_reducible refine qif_t ?_ ?_); focus decide) | ((with_reducible refine qif_f ?_ ?_); focus decide) | (with_reducible refine And.intro (orderOk_i ?ho) ?_; (case ho => kernel_rfl)) | (with_reducible refine qif_i (fun _ => ?_) (fun _ => ?_)) | (with_reducible refine frcVs_i ?_) | (with_reducible refine frcRs_i ?_) | ((with_reducible refine qCall.pure (num16_l _) ?_ ?_ ?_ ?_); rotate_left 3; rotate_left; exact trivial; exact plT; exact plT)) <;> (conv => whnf))))
  all_goals first | ((refine qConv.of hB [] [(0, 0)] [] (by rfl) ?_; focus ((conv => whnf); (repeat (refine And.intro ?_ ?_; rotate_left; (conv => whnf))); exact trivial; all_goals (try exact andT))); all_goals rfl; done) | (exfalso; simp_all; done)
/-! ### how much a script weighs -/
structure Act where
  dw : Int
  n : Int
  m : Int
  s : Sg
  fit : Bool
  b : List Int
end Go.Proofs.Ythkjiihphdpagaa

/- A first answer that nobody hears: plain law. No condition. -/
namespace Go.Proofs.Ythkjiihphdpagaa
open Go.RowKit
set_option linter.unusedVariables false
set_option linter.unusedSimpArgs false
set_option maxRecDepth 100000

/-- how long is waited, how long it was waited ahead of it -/
def wT (n : Nat) : Int := if n = 0 then 3 else if n = 1 then 6 else if n = 2 then 12 else if n = 3 then 24 else 48
def sT (n : Nat) : Int := if n = 0 then 0 else if n = 1 then 3 else if n = 2 then 9 else if n = 3 then 21 else 45 + 48 * ((n : Int) - 4)
def cT (iss : Int) (n : Nat) (g : Int) : Cn := ⟨1, 2, 3, 4, 1, iss, wadd iss 1, 0, [], 10, [], false, ⟨true, wT n - g, wT n, n⟩⟩
def sg1 (iss : Int) : Sg := ⟨4, 3, iss, 10, 18, 2048, []⟩
theorem wT_bd (n : Nat) : 3 ≤ wT n ∧ wT n ≤ 48 := by unfold wT; split <;> (try split) <;> (try split) <;> (try split) <;> omega
theorem sT_step (n : Nat) : sT (n + 1) = sT n + wT n := by
  unfold sT wT
  rcases n with _ | _ | _ | _ | n
  · rfl
  · rfl
  · rfl
  · rfl
  · simp; omega
theorem wT_step (n : Nat) : min (2 * wT n) 48 = wT (n + 1) := by
  unfold wT
  rcases n with _ | _ | _ | _ | n
  · rfl
  · rfl
  · rfl
  · rfl
  · simp; rfl
theorem sT_le (n : Nat) (h : n ≤ 8) : 0 ≤ sT n ∧ sT n ≤ 237 := by
  rcases (by omega : n = 0 ∨ n = 1 ∨ n = 2 ∨ n = 3 ∨ n = 4 ∨ n = 5 ∨ n = 6 ∨ n = 7 ∨ n = 8) with h | h | h | h | h | h | h | h | h <;> subst h <;> decide
theorem open_tri (iss : Int) : opens 1 2 iss ⟨3, 4, 9, 0, 2, 0, []⟩ = ⟨cT iss 0 0, [sg1 iss], []⟩ := by
  have e : wadd 9 1 = 10 := by kernel_rfl
  unfold opens Stp.seg Cn.start cT sg1
  simp only [e]
  rfl
theorem cT_ok (iss : Int) (h : 0 ≤ iss ∧ iss ≤ 4294967295) (n : Nat) (hn : n ≤ 8) (g : Int) (h0 : 0 ≤ g) (h1 : g < wT n) : cnB (cT iss n g) = true := by
  rw [cnB_iff]
  have hw := wT_bd n
  have hb := wadd_bd iss 1
  refine ⟨⟨by simp [cT], by simp [cT], by simp [cT], by simp [cT], by simp [cT], h, by show 0 ≤ wadd iss 1 ∧ wadd iss 1 ≤ 4294967295; omega, by simp [cT], by simp [cT], (by show mayB 10 [] = true; decide +kernel), ?_⟩, ⟨fun e => ?_, fun _ => ?_, fun e => ?_, fun e => ?_, fun e => ?_⟩⟩
  · unfold tmB cT
    rw [Bool.and_eq_true, decide_eq_true_eq]
    exact ⟨⟨by dsimp only; omega, by dsimp only; omega, by dsimp only; omega, by dsimp only; omega, by dsimp only; omega, by dsimp only; omega⟩, rfl⟩
  · exact absurd e (by show ¬ (1 : Int) = 0; decide)
  · show wdiff (wadd iss 1) iss = 1
    unfold wdiff wadd; omega
  · exact absurd e (by show ¬ ((1 : Int) = 4 ∨ (1 : Int) = 8); decide)
  · exact absurd e (by show ¬ ((1 : Int) = 3 ∨ (1 : Int) = 6 ∨ (1 : Int) = 7); decide)
  · exact absurd e (by show ¬ ((1 : Int) = 2 ∨ (1 : Int) = 5); decide)
theorem cT_beat (iss : Int) (n : Nat) (g : Int) (h1 : g < wT n) : tmBeat (cT iss n g).tm = ⟨true, wT n - (g + 1), wT n, n⟩ := by
  unfold tmBeat cT
  simp only [if_true, Tm.mk.injEq, true_and, and_true]
  omega
theorem tick_on (iss : Int) (n : Nat) (g : Int) (h1 : g + 1 < wT n) : (cT iss n g).ticks = ⟨cT iss n (g + 1), [], []⟩ := by
  unfold Cn.ticks tmRings
  rw [cT_beat iss n g (by omega)]
  have e : ((wT n - (g + 1)) == 0) = false := by rw [beq_eq_false_iff_ne]; omega
  rw [e, Bool.and_false, cond_false]
  rfl
theorem tick_again (iss : Int) (n : Nat) (g : Int) (hn : n < 8) (h1 : g + 1 = wT n) : (cT iss n g).ticks = ⟨cT iss (n + 1) 0, [sg1 iss], []⟩ := by
  have hw := wT_bd n
  unfold Cn.ticks tmRings
  rw [cT_beat iss n g (by omega)]
  have e : ((wT n - (g + 1)) == 0) = true := by rw [beq_iff_eq]; omega
  have e1 : (cT iss n g).tm.on = true := rfl
  have e2 : ((cT iss n g).st == 8) = false := rfl
  have e3 : ((cT iss n g).tm.tries == 8) = false := by show ((n : Int) == 8) = false; rw [beq_eq_false_iff_ne]; omega
  rw [e, e1, e2, e3, Bool.and_true, cond_true, cond_false, cond_false]
  have hb : tmBack ⟨true, wT n - (g + 1), wT n, n⟩ = ⟨true, wT (n + 1) - 0, wT (n + 1), ((n + 1 : Nat) : Int)⟩ := by
    have := wT_step n
    unfold tmBack
    simp only [Tm.mk.injEq, true_and]
    omega
  rw [hb]
  rfl
theorem tick_end (iss : Int) (g : Int) (h1 : g + 1 = wT 8) : (cT iss 8 g).ticks.out = [⟨4, 3, wadd iss 1, 10, 20, 2048, []⟩] ∧ (cT iss 8 g).ticks.c.st = 0 := by
  unfold Cn.ticks tmRings
  rw [cT_beat iss 8 g (by omega)]
  have e : ((wT 8 - (g + 1)) == 0) = true := by rw [beq_iff_eq]; omega
  have e1 : (cT iss 8 g).tm.on = true := rfl
  have e2 : ((cT iss 8 g).st == 8) = false := rfl
  have e3 : ((cT iss 8 g).tm.tries == 8) = true := rfl
  rw [e, e1, e2, e3, Bool.and_true, cond_true, cond_false, cond_true]
  exact ⟨rfl, rfl⟩
end Go.Proofs.Ythkjiihphdpagaa

/- A first answer that nobody hears: the law on data. Condition: lengths that an argument may have. -/
namespace Go.Proofs.Ythkjiihphdpagaa
open Go.RowKit
set_option linter.unusedVariables false
set_option linter.unusedSimpArgs false
set_option maxRecDepth 100000
set_option maxHeartbeats 4000000

structure Talk where
  a : List Int
  b : List Int
  size : Int
  iss : Int
  lost : List Int
  wins : List Int
abbrev nR1 (n : Int) : List AV := [.val (.int .i64 n)]
abbrev tkR (t : Talk) : List AV := [bL 0 t.a, bL 0 t.b, .val (.int .i64 t.size), .val (.int .i64 t.iss), .list 0 1 (t.lost.map nR1), .list 0 1 (t.wins.map nR1)]
theorem pl_nums (l : List Int) : PlRows (l.map nR1) := by
  refine PlRows.mapF _ _ fun m _ => ?_
  intro x hx
  simp only [nR1, List.mem_cons, List.not_mem_nil, or_false] at hx
  subst hx
  exact .val _
theorem word_of (i : Int) : ∃ w, IntKind.i64.wrap (IntKind.u32.wrap i) = w ∧ 0 ≤ w ∧ w ≤ 4294967295 := by
  refine ⟨_, rfl, ?_⟩
  rw [IntKind.wrap_u32, IntWalk.i64_in _ (by omega)]
  omega
abbrev cnQ (row : List AV) : Own := .live ⟨16, 33, [row]⟩
abbrev sgQ (row : List AV) : Own := .live ⟨7, 39, [row]⟩
theorem dt_AhTries_ROWT {p : Prop} (h : p := by first | ((first | rfl | exact segs_gg rfl _ | exact bytes_cells _ | exact parts_gg rfl _ | (refine RowsRen.one ?_; (repeat (refine Cells.cons ?_ ?_; focus (first | exact .val _ | exact Ren.gg rfl _ | exact Ren.ll rfl _ | exact Ren.pgl rfl rfl _ | exact Ren.pll rfl rfl _ | fail))); exact Cells.nil) | (refine congrArg (Value.int IntKind.i64) ?_; dsimp only; omega) | (refine congrArg (Value.int IntKind.i64) ?_; omega) | (refine congrArg (fun q => AV.val (Value.int IntKind.i64 q)) ?_; dsimp only; omega)); done) | fail) : p := h
theorem tries_l (t : Talk) : ACallL Try.prog 4 [.agg (tkR t)] [.perm] (.val (.bool true)) [.perm] := by
  have pa := pl_bytes t.a
  have pb := pl_bytes t.b
  have pc := pl_nums t.lost
  have pd := pl_nums t.wins
  obtain ⟨iss, hiss, hw⟩ := word_of t.iss
  have hop : openB 1 2 iss ⟨3, 4, 9, 0, 2, 0, []⟩ = true := by
    have e : within iss 4294967295 = true := by simp only [within, decide_eq_true_eq]; omega
    unfold openB
    rw [e]
    decide +kernel
  have cO := tcpOpenA_l 1 2 iss ⟨3, 4, 9, 0, 2, 0, []⟩ hop
  rw [open_tri] at cO
  have cO' : ∀ r, r = iss → ACallL Try.prog 9 [.val (.int .i64 1), .val (.int .i64 2), .val (.int .i64 r), .agg (sgR 0 ⟨3, 4, 9, 0, 2, 0, []⟩)] [.perm] (stA ⟨cT iss 0 0, [sg1 iss], []⟩) stH := fun r e => e ▸ cO
  clear cO
  dsimp only [stA, tkR, sgR, sgL] at cO' ⊢
  refine ACallL.of_ev mixed Try.func4 rfl (fun a w => Try.call4 a w) (congrArg Array.toList Try.results4) Try.ntmps4 fun B hB => ?_
  ((conv => whnf); (repeat' ((first | (with_reducible first | refine qif_n ?_ | refine qif_t ‹_› ?_ | refine qif_f ‹_› ?_) | ((with_reducible refine qif_t ?_ ?_); focus decide) | ((with_reducible refine qif_f ?_ ?_); focus decide) | (with_reducible refine And.intro (orderOk_i ?ho) ?_; (case ho => kernel_rfl)) | ((with_reducible refine qif_t ?_ ?_); focus (simp []; done)) | ((with_reducible refine qif_f ?_ ?_); focus (simp []; done)) | (with_reducible refine qif_i (fun _ => ?_) (fun _ => ?_)) | (with_reducible refine frcVs_i ?_) | (with_reducible refine frcRs_i ?_) | ((with_reducible refine qCall.pure (num16_l _) ?_ ?_ ?_ ?_); rotate_left 3; rotate_left; exact trivial; exact plT; exact plT) | (((with_reducible refine qCall.of ((cO' _ hiss)) [] [(0, 0)] [] [(1, 2), (2, 3), (3, 4), (4, 5), (5, 6)] [(2, .uniq), (3, .uniq), (4, .uniq), (5, .uniq), (6, .uniq)] (.tup [.agg (cnG 2 3 4 (cT iss 0 0)), .glist 5 7 [sgG 6 (sg1 iss)], .val (.int .i64 0)]) ?hk ?_); (case hk => rfl); (conv => whnf); (repeat (refine And.intro ?_ ?_; (focus (exact sideT)); (conv => whnf))); (fail_if_success (with_reducible refine And.intro (eqv_i ?_) ?_)); (fail_if_success (with_reducible refine And.intro (ren_i ?_) ?_))))) <;> (conv => whnf))))
  refine qAW.loopE mixed (X := Nat × Nat) (fun x => slotsOf 93 [(3, .ptr 1 0 0), (6, .ptr 5 0 0), (7, .val (.int .i64 x.1)), (8, .val (.int .i64 (wT x.1))), (9, .val (.int .i64 x.2)), (10, .val (.int .i64 (sT x.1 + x.2)))]) (fun x => [.perm, cnQ (cnG 2 3 4 (cT iss x.1 x.2)), .uniq, .uniq, .uniq, sgQ (sgG 6 (sg1 iss)), .uniq]) (fun x => x.1 ≤ 8 ∧ (x.2 : Int) < wT x.1) (fun x => 1000 - (sT x.1 + x.2).toNat) (0, 0) ⟨Nat.zero_le _, by decide⟩ ?_ ?_
  · (refine qConv.of hB [(7, 1), (8, 5)] [(0, 0), (2, 2), (3, 3), (4, 4), (6, 6)] [] (by rfl) ?_; focus ((conv => whnf); (repeat (refine And.intro ?_ ?_; rotate_left; (conv => whnf))); exact trivial; all_goals (try exact andT)))
    all_goals (try exact dt_AhTries_ROWT)
  · rintro E ⟨n, g⟩ ⟨hn, hg⟩ hE
    dsimp only at hn hg ⊢
    have hwT := wT_bd n
    have hsT := sT_le n hn
    have hlt : decide (sT n + (g : Int) < 1000) = true := by rw [decide_eq_true_eq]; omega
    have w1 := IntWalk.i64_in (sT n + (g : Int) + 1) (by omega)
    have w2 := IntWalk.i64_in ((g : Int) + 1) (by omega)
    have w3 := IntWalk.i64_in ((n : Int) + 1) (by omega)
    have w4 := IntWalk.i64_in (2 * wT n) (by omega)
    have cB := cT_ok iss hw n hn g (by omega) hg
    have cK := tcpTick_l (cT iss n g) cB
    have hst : ((cT iss n g).st != 0) = true := rfl
    have hst2 : ((cT iss (n + 1) 0).st == 0) = false := rfl
    have hsS := sT_step n
    have hwS := wT_step n
    have cEq := eqSeg_l (sg1 iss) (sg1 iss) (by simp [sg1])
    rw [decide_eq_true (rfl : sg1 iss = sg1 iss)] at cEq
    by_cases h1 : (g : Int) + 1 < wT n
    · rw [tick_on iss n g h1] at cK
      dsimp only [stA, cnR, cnG, cnL, List.map_nil] at cK
      dsimp only [cnG, cnL]
      subst hE
      ((conv => whnf); (repeat' ((first | (with_reducible first | refine qif_n ?_ | refine qif_t ‹_› ?_ | refine qif_f ‹_› ?_) | ((with_reducible refine qif_t ?_ ?_); focus decide) | ((with_reducible refine qif_f ?_ ?_); focus decide) | (with_reducible refine And.intro (orderOk_i ?ho) ?_; (case ho => kernel_rfl)) | ((with_reducible refine qif_t ?_ ?_); focus (simp []; done)) | ((with_reducible refine qif_f ?_ ?_); focus (simp []; done)) | (with_reducible refine qif_i (fun _ => ?_) (fun _ => ?_)) | (with_reducible refine frcVs_i ?_) | (with_reducible refine frcRs_i ?_) | ((with_reducible refine qCall.pure (num16_l _) ?_ ?_ ?_ ?_); rotate_left 3; rotate_left; exact trivial; exact plT; exact plT) | (((with_reducible refine qCall.of (cK) [] [(0, 0), (0, 2), (0, 3), (0, 4)] [] [(1, 7), (2, 8), (3, 9), (4, 10), (5, 11)] [(7, .uniq), (8, .uniq), (9, .uniq), (10, .uniq), (11, .uniq)] (.tup [.agg (cnG 7 8 9 (cT iss n (g + 1))), .glist 10 7 [], .val (.int .i64 0)]) ?hk ?_); (case hk => rfl); (conv => whnf); (repeat (refine And.intro ?_ ?_; (focus (exact sideT)); (conv => whnf))); (fail_if_success (with_reducible refine And.intro (eqv_i ?_) ?_)); (fail_if_success (with_reducible refine And.intro (ren_i ?_) ?_))))) <;> (conv => whnf))))
      refine ⟨(n, g + 1), ⟨hn, by dsimp only; omega⟩, by dsimp only; omega, ?_⟩
      (refine qConv.of hB [(1, 1), (5, 5)] [(0, 0), (7, 2), (8, 3), (9, 4), (6, 6)] [] (by rfl) ?_; focus ((conv => whnf); (repeat (refine And.intro ?_ ?_; rotate_left; (conv => whnf))); exact trivial; all_goals (try exact andT)))
      all_goals (try exact dt_AhTries_ROWT)
    · by_cases h8 : n < 8
      · have hgw : (IntKind.i64.wrap ((g : Int) + 1) != wT n) = false := by rw [bne_eq_false_iff_eq]; omega
        rw [tick_again iss n g h8 (by omega)] at cK
        dsimp only [stA, cnR, cnG, cnL, sgR, sgG, sgL, List.map_nil, List.map_cons] at cK cEq
        dsimp only [cnG, cnL, sgG, sgL]
        subst hE
        ((conv => whnf); (repeat' ((first | (with_reducible first | refine qif_n ?_ | refine qif_t ‹_› ?_ | refine qif_f ‹_› ?_) | ((with_reducible refine qif_t ?_ ?_); focus decide) | ((with_reducible refine qif_f ?_ ?_); focus decide) | (with_reducible refine And.intro (orderOk_i ?ho) ?_; (case ho => kernel_rfl)) | ((with_reducible refine qif_t ?_ ?_); focus (simp []; done)) | ((with_reducible refine qif_f ?_ ?_); focus (simp []; done)) | (with_reducible refine qif_i (fun _ => ?_) (fun _ => ?_)) | (with_reducible refine frcVs_i ?_) | (with_reducible refine frcRs_i ?_) | ((with_reducible refine qCall.pure (num16_l _) ?_ ?_ ?_ ?_); rotate_left 3; rotate_left; exact trivial; exact plT; exact plT) | (((with_reducible refine qCall.of (cK) [] [(0, 0), (0, 2), (0, 3), (0, 4)] [] [(1, 7), (2, 8), (3, 9), (4, 10), (5, 11)] [(7, .uniq), (8, .uniq), (9, .uniq), (10, .uniq), (11, .uniq)] (.tup [.agg (cnG 7 8 9 (cT iss (n + 1) 0)), .glist 10 7 [sgG 11 (sg1 iss)], .val (.int .i64 0)]) ?hk ?_); (case hk => rfl); (conv => whnf); (repeat (refine And.intro ?_ ?_; (focus (exact sideT)); (conv => whnf))); (fail_if_success (with_reducible refine And.intro (eqv_i ?_) ?_)); (fail_if_success (with_reducible refine And.intro (ren_i ?_) ?_)))) | (((with_reducible refine qCall.reads (cEq) [(0, 0), (0, 11), (0, 6)] [] ?hk ?_); (case hk => rfl); (conv => whnf); (repeat (refine And.intro ?_ ?_; (focus (exact sideT)); (conv => whnf))); (fail_if_success (with_reducible refine And.intro (eqv_i ?_) ?_)); (fail_if_success (with_reducible refine And.intro (ren_i ?_) ?_))))) <;> (conv => whnf))))
        refine ⟨(n + 1, 0), ⟨by dsimp only; omega, by have := wT_bd (n + 1); dsimp only; omega⟩, by dsimp only; omega, ?_⟩
        (refine qConv.of hB [(1, 1), (5, 5)] [(0, 0), (7, 2), (8, 3), (9, 4), (6, 6)] [] (by rfl) ?_; focus ((conv => whnf); (repeat (refine And.intro ?_ ?_; rotate_left; (conv => whnf))); exact trivial; all_goals (try exact andT)))
        all_goals (try exact dt_AhTries_ROWT)
      · have hn8 : n = 8 := by omega
        subst hn8
        have hgw : (IntKind.i64.wrap ((g : Int) + 1) != wT 8) = false := by rw [bne_eq_false_iff_eq]; omega
        obtain ⟨e1, e2⟩ := tick_end iss g (by omega)
        obtain ⟨y, hy⟩ : ∃ r, (cT iss 8 g).ticks = r := ⟨_, rfl⟩
        rw [hy] at cK e1 e2
        dsimp only [stA, cnR, cnG, cnL] at cK
        rw [e1, e2] at cK
        try dsimp only [sgR, sgG, sgL, List.map_nil, List.map_cons] at cK
        try dsimp only [cnG, cnL, sgG, sgL]
        subst hE
        ((conv => whnf); (repeat' ((first | (with_reducible first | refine qif_n ?_ | refine qif_t ‹_› ?_ | refine qif_f ‹_› ?_) | ((with_reducible refine qif_t ?_ ?_); focus decide) | ((with_reducible refine qif_f ?_ ?_); focus decide) | (with_reducible refine And.intro (orderOk_i ?ho) ?_; (case ho => kernel_rfl)) | ((with_reducible refine qif_t ?_ ?_); focus (simp []; done)) | ((with_reducible refine qif_f ?_ ?_); focus (simp []; done)) | (with_reducible refine qif_i (fun _ => ?_) (fun _ => ?_)) | (with_reducible refine frcVs_i ?_) | (with_reducible refine frcRs_i ?_) | ((with_reducible refine qCall.pure (num16_l _) ?_ ?_ ?_ ?_); rotate_left 3; rotate_left; exact trivial; exact plT; exact plT) | ((with_reducible refine qCall.pure (wakes16_l) ?_ ?_ ?_ ?_); rotate_left 3; rotate_left; exact trivial; exact plT; exact plT) | (((with_reducible refine qCall.of (cK) [] [(0, 0), (0, 2), (0, 3), (0, 4)] [] [(1, 7), (2, 8), (3, 9), (4, 10), (5, 11)] [(7, .uniq), (8, .uniq), (9, .uniq), (10, .uniq), (11, .uniq)] (.tup [.agg (cnL (gL 7 y.c.out) (.list 8 2 (y.c.parts.map (prg 9))) ({ y.c with st := 0 } : Cn)), .glist 10 7 [sgG 11 ⟨4, 3, wadd iss 1, 10, 20, 2048, []⟩], .val (.int .i64 0)]) ?hk ?_); (case hk => rfl); (conv => whnf); (repeat (refine And.intro ?_ ?_; (focus (exact sideT)); (conv => whnf))); (fail_if_success (with_reducible refine And.intro (eqv_i ?_) ?_)); (fail_if_success (with_reducible refine And.intro (ren_i ?_) ?_))))) <;> (conv => whnf))))
        all_goals first | ((refine qConv.of hB [] [(0, 0)] [] (by rfl) ?_; focus ((conv => whnf); (repeat (refine And.intro ?_ ?_; rotate_left; (conv => whnf))); exact trivial; all_goals (try exact andT))); all_goals rfl; done) | (exfalso; simp_all; done)
end Go.Proofs.Ythkjiihphdpagaa

/- The argument of the statements on tcp that are told as talks, as data. No condition. -/
namespace Go.Proofs.Ythkjiihphdpagaa
open Go.RowKit
set_option linter.unusedVariables false
set_option linter.unusedSimpArgs false
set_option maxRecDepth 100000
set_option maxHeartbeats 4000000

theorem cells_ints : Try.prog.cellsOf 23 = 1 := by kernel_rfl
theorem cells_talk : Try.prog.cellsOf 25 = 6 := by kernel_rfl
theorem ty_ints {q : Nat} {avs : List AV} (h : TyZV Try.prog (q + 2) 23 avs) : ∃ xs : List Int, avs = [.list 0 1 (xs.map nR1)] ∧ xs.length ≤ 140737488351232 := by
  unfold TyZV at h
  rw [Try.underlying23] at h
  obtain ⟨rows, e, _, hz, hr⟩ := h
  obtain ⟨xs, rfl, hx⟩ := rows_shape (f := nR1) (Q := fun _ => True) (fun row (h : _ ∧ _) => by obtain ⟨i, e, _⟩ := ty_int h.2; exact ⟨i, e, trivial⟩) rows hr
  rw [size_int, List.length_map] at hz
  exact ⟨xs, by rw [e, cells_int], by have := reach_lt; omega⟩
theorem ty_talk {avs : List AV} (h : TyZV Try.prog 8 25 avs) : ∃ t : Talk, avs = tkR t ∧ t.a.length ≤ 140737488351232 ∧ t.b.length ≤ 140737488351232 ∧ t.lost.length ≤ 140737488351232 ∧ t.wins.length ≤ 140737488351232 := by
  unfold TyZV at h
  rw [Try.underlying25] at h
  obtain ⟨hl, hx⟩ := h
  rw [cells_talk] at hl
  match avs, hl with
  | [c0, c1, c2, c3, c4, c5], _ =>
    simp only [List.forall_mem_cons, cells_int, cells_bytes, cells_ints, List.drop, List.take] at hx
    obtain ⟨h0, h1, h2, h3, h4, h5, -⟩ := hx
    obtain ⟨a, e0, b0⟩ := ty_bytes (q := 5) h0
    obtain ⟨b, e1, b1⟩ := ty_bytes (q := 5) h1
    obtain ⟨i2, e2, -⟩ := ty_int h2
    obtain ⟨i3, e3, -⟩ := ty_int h3
    obtain ⟨l, e4, b4⟩ := ty_ints (q := 5) h4
    obtain ⟨w, e5, b5⟩ := ty_ints (q := 5) h5
    simp only [List.cons.injEq, and_true] at e0 e1 e2 e3 e4 e5
    subst e0 e1 e2 e3 e4 e5
    exact ⟨⟨a, b, i2, i3, l, w⟩, rfl, b0.1, b1.1, b4, b5⟩
end Go.Proofs.Ythkjiihphdpagaa

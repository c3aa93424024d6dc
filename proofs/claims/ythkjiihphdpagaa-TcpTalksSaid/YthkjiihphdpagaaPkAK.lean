/- Contracts and plain laws, one behind the other: AhTcpO, AhTcpQ, TcpL3, AhTcpZ, TcpTri, AhTries, Arg16T, AhStream, TcpEv, TcpEv2. Conditions are said at each. -/
import Derived.Test.YthkjiihphdpagaaAhTcpK
import Derived.Test.YthkjiihphdpagaaPkAE
import Derived.Test.YthkjiihphdpagaaPkAG
import Derived.Test.YthkjiihphdpagaaPkAA
/- A connection is opened: on data. No condition but lengths. -/
namespace Go.Proofs.Ythkjiihphdpagaa
open Go.RowKit
set_option linter.unusedVariables false
set_option linter.unusedSimpArgs false
set_option maxRecDepth 100000
set_option maxHeartbeats 4000000
theorem fl_22 : ∀ n : Fin 64, (bits .and .i64 ((n.val : Nat) : Int) 22 == 2) = (!(bits .and .i64 ((n.val : Nat) : Int) 2 == 0) && (bits .and .i64 ((n.val : Nat) : Int) 20 == 0)) := by decide +kernel
theorem fl_open {fl : Int} (h : 0 ≤ fl ∧ fl ≤ 63) : (bits .and .i64 fl 22 == 2) = (!flN fl 2 && flN fl 20) := by
  have := fl_22 ⟨fl.toNat, by omega⟩
  rw [show ((fl.toNat : Nat) : Int) = fl by omega] at this
  exact this
theorem sgB_fl {m : Sg} (h : sgB m = true) : 0 ≤ m.fl ∧ m.fl ≤ 63 := (sgB_t h).2.2.2.2.1
theorem Ren.fzS {L I F : Prs} {h : Hp} {b r d d' : Nat} {e : TypeId} {m : Sg} (h0 : F.has b r = true) (hb : h b = .live ⟨7, e, [sgG d m]⟩) (h1 : I.has d d' = true) : Ren (qOf L I F) h (.sl b 0 1) (.glist r 7 ([m].map (sgG d'))) := by
  obtain ⟨x, y, z⟩ := segs_gg (L := L) (I := I) (F := F) (h := h) h1 [m]
  exact .frzg _ _ _ _ _ _ ((Prs.has_iff F b r).1 h0) hb x y z
theorem sendO_l (c : Cn) (seq fl : Int) : ACallL Try.prog 33 [.ptr 1 0 0, .val (.int .i64 seq), .val (.int .i64 fl), .val (.slice none 0 0)] [.perm, spO (spL (.val (.slice none 0 0)) (.val (.slice none 0 0)) (.val (.slice none 0 0)) (.val (.slice none 0 0)) c)]
    (.tup []) [.perm, spO (spL (.val (.slice none 0 0)) (.val (.slice none 0 0)) (.glist 2 7 ([(⟨c.port, c.pp, seq, c.inx, fl, 2048, []⟩ : Sg)].map (sgG 3))) (.val (.slice none 0 0)) c), .uniq, .uniq] := by
  have cC := clone_l [] (by decide)
  dsimp only [spL]
  refine ACallL.of_ev mixed Try.func33 rfl (fun a w => Try.call33 a w) (congrArg Array.toList Try.results33) Try.ntmps33 fun B hB => ?_
  ((conv => whnf); (repeat' ((first | (with_reducible first | refine qif_n ?_ | refine qif_t ‹_› ?_ | refine qif_f ‹_› ?_) | ((with_reducible refine qif_t ?_ ?_); focus decide) | ((with_reducible refine qif_f ?_ ?_); focus decide) | (with_reducible refine And.intro (orderOk_i ?ho) ?_; (case ho => kernel_rfl)) | (with_reducible first | refine qif_i (fun _ => ?_) (fun _ => ?_) | refine frcVs_i ?_ | refine frcRs_i ?_)) <;> (conv => whnf))))
  ((with_reducible refine qCall.fresh (fun r => gL r []) (cC) [(0, 0)] [] ?hk ?_); (case hk => rfl); (conv => whnf); (repeat (refine And.intro ?_ ?_; exact sideT; (conv => whnf))); (fail_if_success (with_reducible first | refine And.intro (eqv_i ?_) ?_ | refine And.intro (ren_i ?_) ?_)))
  ((conv => whnf); (repeat' ((first | (with_reducible first | refine qif_n ?_ | refine qif_t ‹_› ?_ | refine qif_f ‹_› ?_) | ((with_reducible refine qif_t ?_ ?_); focus decide) | ((with_reducible refine qif_f ?_ ?_); focus decide) | (with_reducible refine And.intro (orderOk_i ?ho) ?_; (case ho => kernel_rfl)) | (with_reducible first | refine qif_i (fun _ => ?_) (fun _ => ?_) | refine frcVs_i ?_ | refine frcRs_i ?_)) <;> (conv => whnf))))
  (refine qConv.of hB [(1, 1)] [(0, 0), (2, 3)] [(4, 2)] (by rfl) ?_; focus ((conv => whnf); (repeat (refine And.intro ?_ ?_; rotate_left; (conv => whnf))); exact trivial; all_goals (try exact andT)))
  all_goals (try (refine RowsRen.one ?_; (repeat (refine Cells.cons ?_ ?_; focus (first | exact .val _ | exact Ren.fzS rfl rfl rfl | fail))); exact Cells.nil))
theorem doneO_l (c : Cn) (l : List Sg) : ACallL Try.prog 34 [.ptr 1 0 0] [.perm, spO (spL (.val (.slice none 0 0)) (.val (.slice none 0 0)) (.glist 2 7 (l.map (sgG 3))) (.val (.slice none 0 0)) c), .perm, .perm]
    (.tup [.agg (cnL (.val (.slice none 0 0)) (.val (.slice none 0 0)) c), .glist 2 7 (l.map (sgG 3)), .val (.int .i64 0)]) [.perm, spO (spL (.val (.slice none 0 0)) (.val (.slice none 0 0)) (.glist 2 7 (l.map (sgG 3))) (.val (.slice none 0 0)) c), .perm, .perm] := by
  dsimp only [spL, cnL]
  refine ACallL.of_ev mixed Try.func34 rfl (fun a w => Try.call34 a w) (congrArg Array.toList Try.results34) Try.ntmps34 fun B hB => ?_
  ((conv => whnf); (repeat' ((first | (with_reducible first | refine qif_n ?_ | refine qif_t ‹_› ?_ | refine qif_f ‹_› ?_) | ((with_reducible refine qif_t ?_ ?_); focus decide) | ((with_reducible refine qif_f ?_ ?_); focus decide) | (with_reducible refine And.intro (orderOk_i ?ho) ?_; (case ho => kernel_rfl)) | (with_reducible first | refine qif_i (fun _ => ?_) (fun _ => ?_) | refine frcVs_i ?_ | refine frcRs_i ?_)) <;> (conv => whnf))))
  (refine qConv.of hB [(1, 1)] [(0, 0), (2, 2), (3, 3)] [] (by rfl) ?_; focus ((conv => whnf); (repeat (refine And.intro ?_ ?_; rotate_left; (conv => whnf))); exact trivial; all_goals (try exact andT)))
  all_goals (try (first | exact segs_gg rfl _ | (refine RowsRen.one ?_; (repeat (refine Cells.cons ?_ ?_; focus (first | exact .val _ | exact Ren.sgs rfl rfl _ | fail))); exact Cells.nil)))
theorem tcpOpen_l (link ip iss : Int) (m : Sg) (h : openB link ip iss m = true) : ACallL Try.prog 9 [.val (.int .i64 link), .val (.int .i64 ip), .val (.int .i64 iss), .agg (sgR 0 m)] [.perm]
    (.tup [.agg (cnL (.val (.slice none 0 0)) (.val (.slice none 0 0)) (opens link ip iss m).c), .glist 1 7 ((opens link ip iss m).out.map (sgG 2)), .val (.int .i64 0)]) [.perm, .uniq, .uniq] := by
  have pz := pl_bytes m.data
  have cS := segMay_l m
  unfold openB at h
  simp only [Bool.and_eq_true] at h
  obtain ⟨h1, h2, h3, h4, h5⟩ := h
  have h6 : (bits .and .i64 m.fl 22 != 2) = false := by
    have := fl_open (sgB_fl h4)
    rw [h5.2, Bool.and_true, h5.1] at this
    simpa using this
  have h7 : decide (link < 0) = false := by simp only [within, decide_eq_true_eq] at h1; simp; omega
  have h8 : decide (1099511627776 < link) = false := by simp only [within, decide_eq_true_eq] at h1; simp; omega
  rw [h4] at cS
  unfold opens Stp.seg Cn.start
  obtain ⟨c, hc⟩ : ∃ c : Cn, c = ⟨link, ip, m.sp, m.dp, 1, iss, wadd iss 1, m.win, [], wadd m.seq 1, [], false, tmNew 3⟩ := ⟨_, rfl⟩
  have cW := sendO_l c iss 18
  have cD := doneO_l c [⟨c.port, c.pp, iss, c.inx, 18, 2048, []⟩]
  subst hc
  dsimp only [sgR, sgL, spL, cnL, tmNew] at cS cW cD ⊢
  refine ACallL.of_ev mixed Try.func9 rfl (fun a w => Try.call9 a w) (congrArg Array.toList Try.results9) Try.ntmps9 fun B hB => ?_
  ((conv => whnf); (repeat' ((first | (with_reducible first | refine qif_n ?_ | refine qif_t ‹_› ?_ | refine qif_f ‹_› ?_) | ((with_reducible refine qif_t ?_ ?_); focus decide) | ((with_reducible refine qif_f ?_ ?_); focus decide) | (with_reducible refine And.intro (orderOk_i ?ho) ?_; (case ho => kernel_rfl)) | (with_reducible first | refine qif_i (fun _ => ?_) (fun _ => ?_) | refine frcVs_i ?_ | refine frcRs_i ?_) | ((with_reducible refine qCall.pure (segIP_l _) ?_ ?_ ?_ ?_); rotate_left 4; exact trivial; exact plT; exact plT) | ((with_reducible refine qCall.pure (spanIs_l _) ?_ ?_ ?_ ?_); rotate_left 4; exact trivial; exact plT; exact plT) | ((with_reducible refine qCall.pure (cS) ?_ ?_ ?_ ?_); rotate_left 4; exact trivial; exact plT; exact plT) | ((with_reducible refine qCall.pure (spanAdd_l _ _) ?_ ?_ ?_ ?_); rotate_left 4; exact trivial; exact plT; exact plT) | ((with_reducible refine qCall.pure (tnew_l _) ?_ ?_ ?_ ?_); rotate_left 4; exact trivial; exact plT; exact plT)) <;> (conv => whnf))))
  ((with_reducible refine qCall.of (cW) [(1, 3)] [(0, 0)] [] [(2, 4), (3, 5)] [(3, spO (spL (.val (.slice none 0 0)) (.val (.slice none 0 0)) (.glist 4 7 ([(⟨m.dp, m.sp, iss, wadd m.seq 1, 18, 2048, []⟩ : Sg)].map (sgG 5))) (.val (.slice none 0 0)) (⟨link, ip, m.sp, m.dp, 1, iss, wadd iss 1, m.win, [], wadd m.seq 1, [], false, tmNew 3⟩ : Cn))), (4, .uniq), (5, .uniq)] (.tup []) ?hk ?_); (case hk => rfl); (conv => whnf); (repeat (refine And.intro ?_ ?_; exact sideT; (conv => whnf))); (fail_if_success (with_reducible first | refine And.intro (eqv_i ?_) ?_ | refine And.intro (ren_i ?_) ?_)))
  ((conv => whnf); (repeat' ((first | (with_reducible first | refine qif_n ?_ | refine qif_t ‹_› ?_ | refine qif_f ‹_› ?_) | ((with_reducible refine qif_t ?_ ?_); focus decide) | ((with_reducible refine qif_f ?_ ?_); focus decide) | (with_reducible refine And.intro (orderOk_i ?ho) ?_; (case ho => kernel_rfl)) | (with_reducible first | refine qif_i (fun _ => ?_) (fun _ => ?_) | refine frcVs_i ?_ | refine frcRs_i ?_)) <;> (conv => whnf))))
  ((with_reducible refine qCall.of (cD) [(1, 3)] [(0, 0), (2, 4), (3, 5)] [] [] [(3, spO (spL (.val (.slice none 0 0)) (.val (.slice none 0 0)) (.glist 4 7 ([(⟨m.dp, m.sp, iss, wadd m.seq 1, 18, 2048, []⟩ : Sg)].map (sgG 5))) (.val (.slice none 0 0)) (⟨link, ip, m.sp, m.dp, 1, iss, wadd iss 1, m.win, [], wadd m.seq 1, [], false, tmNew 3⟩ : Cn)))] (.tup [.agg (cnL (.val (.slice none 0 0)) (.val (.slice none 0 0)) (⟨link, ip, m.sp, m.dp, 1, iss, wadd iss 1, m.win, [], wadd m.seq 1, [], false, tmNew 3⟩ : Cn)), .glist 4 7 ([(⟨m.dp, m.sp, iss, wadd m.seq 1, 18, 2048, []⟩ : Sg)].map (sgG 5)), .val (.int .i64 0)]) ?hk ?_); (case hk => rfl); (conv => whnf); (repeat (refine And.intro ?_ ?_; exact sideT; (conv => whnf))); (fail_if_success (with_reducible first | refine And.intro (eqv_i ?_) ?_ | refine And.intro (ren_i ?_) ?_)))
  ((conv => whnf); (repeat' ((first | (with_reducible first | refine qif_n ?_ | refine qif_t ‹_› ?_ | refine qif_f ‹_› ?_) | ((with_reducible refine qif_t ?_ ?_); focus decide) | ((with_reducible refine qif_f ?_ ?_); focus decide) | (with_reducible refine And.intro (orderOk_i ?ho) ?_; (case ho => kernel_rfl)) | (with_reducible first | refine qif_i (fun _ => ?_) (fun _ => ?_) | refine frcVs_i ?_ | refine frcRs_i ?_)) <;> (conv => whnf))))
  (refine qConv.of hB [] [(0, 0), (4, 1), (5, 2)] [] (by rfl) ?_; focus ((conv => whnf); (repeat (refine And.intro ?_ ?_; rotate_left; (conv => whnf))); exact trivial; all_goals (try exact andT)))
  all_goals (try (first | rfl | exact segs_gg rfl _))
end Go.Proofs.Ythkjiihphdpagaa

/- The statement wakes; how much a script weighs; what fits: on data. Conditions: lengths. -/
namespace Go.Proofs.Ythkjiihphdpagaa
open Go.RowKit
set_option linter.unusedVariables false
set_option linter.unusedSimpArgs false
set_option maxRecDepth 100000
set_option maxHeartbeats 4000000
theorem dt_AhTcpQ_ROWQ {p : Prop} (h : p := by first | ((first | rfl | (refine RowsRen.one ?_; (repeat (refine Cells.cons ?_ ?_; focus (first | exact .val _ | exact Ren.gg rfl _ | exact Ren.ll rfl _ | exact Ren.g2 rfl _ | exact Ren.vnil _ _ | exact Ren.vgnil _ _ | exact Ren.sgs rfl rfl _ | exact Ren.pgl rfl rfl _ | fail))); exact Cells.nil) | exact segs_gg rfl _ | exact parts_gg rfl _ | exact bytes_cells _); done) | fail) : p := h
theorem tcpOpenA_l (link ip iss : Int) (m : Sg) (h : openB link ip iss m = true) : ACallL Try.prog 9 [.val (.int .i64 link), .val (.int .i64 ip), .val (.int .i64 iss), .agg (sgR 0 m)] [.perm] (stA (opens link ip iss m)) stH := by
  have cO := tcpOpen_l link ip iss m h
  have e1 : (opens link ip iss m).c.out = [] := rfl
  have e2 : (opens link ip iss m).c.parts = [] := rfl
  obtain ⟨y, hy⟩ : ∃ r, opens link ip iss m = r := ⟨_, rfl⟩
  rw [hy] at cO e1 e2 ⊢
  have pz := pl_bytes m.data
  unfold stA
  dsimp only [sgR, sgL, cnL, cnG] at cO ⊢
  rw [e1, e2]
  refine ACallL.of_q (fun a w => Try.call9 a w) fun B hB => ?_
  ((with_reducible refine qCall.of (cO) [] [(0, 0)] [] [(1, 1), (2, 2)] [(1, .uniq), (2, .uniq)] (.tup [.agg (cnL (.val (.slice none 0 0)) (.val (.slice none 0 0)) y.c), .glist 1 7 (y.out.map (sgG 2)), .val (.int .i64 0)]) ?hk ?_); (case hk => rfl); (conv => whnf); (repeat (refine And.intro ?_ ?_; exact sideT; (conv => whnf))); (fail_if_success (with_reducible first | refine And.intro (eqv_i ?_) ?_ | refine And.intro (ren_i ?_) ?_)))
  (refine qConv.of hB [] [(0, 0), (1, 4), (2, 5)] [] (by rfl) ?_; focus ((conv => whnf); (repeat (refine And.intro ?_ ?_; rotate_left; (conv => whnf))); exact trivial; all_goals (try exact andT)))
  all_goals (try exact dt_AhTcpQ_ROWQ)
theorem num16_l (n : Int) : ACallL Try.prog 13 [.val (.int .i64 n)] [.perm] (.val (.int .i64 n)) [.perm] := by
  refine ACallL.of_ev mixed Try.func13 rfl (fun a w => Try.call13 a w) (congrArg Array.toList Try.results13) Try.ntmps13 fun B hB => ?_
  ((conv => whnf); (repeat' ((first | (with_reducible first | refine qif_n ?_ | refine qif_t ‹_› ?_ | refine qif_f ‹_› ?_) | ((with_reducible refine qif_t ?_ ?_); focus decide) | ((with_reducible refine qif_f ?_ ?_); focus decide) | (with_reducible refine And.intro (orderOk_i ?ho) ?_; (case ho => kernel_rfl)) | (with_reducible first | refine qif_i (fun _ => ?_) (fun _ => ?_) | refine frcVs_i ?_ | refine frcRs_i ?_)) <;> (conv => whnf))))
  all_goals (refine qConv.of hB [] [(0, 0)] [] (by rfl) ?_; focus ((conv => whnf); (repeat (refine And.intro ?_ ?_; rotate_left; (conv => whnf))); exact trivial; all_goals (try exact andT)))
end Go.Proofs.Ythkjiihphdpagaa

/- What a step sends and tells may be; the connection's names stay: plain law. No condition but that it may be one. -/
namespace Go.Proofs.Ythkjiihphdpagaa
open Go.RowKit
set_option linter.unusedVariables false
set_option linter.unusedSimpArgs false
structure SegI (c : Cn) (m : Sg) : Prop where
  ok : sgB m = true
  sp : m.sp = c.port
  dp : m.dp = c.pp
  len : m.data.length ≤ 536
structure StI (c : Cn) (n : Nat) (y : Stp) : Prop where
  port : 0 ≤ c.port ∧ c.port ≤ 65535
  pp : 0 ≤ c.pp ∧ c.pp ≤ 65535
  e1 : y.c.link = c.link
  e2 : y.c.ip = c.ip
  e3 : y.c.pp = c.pp
  e4 : y.c.port = c.port
  inx : 0 ≤ y.c.inx ∧ y.c.inx ≤ 4294967295
  segs : ∀ m ∈ y.out, SegI c m
  cnt : y.out.length ≤ n
  told : y.told.length ≤ 2048
theorem CnF.inx {c : Cn} (h : CnF c) : 0 ≤ c.inx ∧ c.inx ≤ 4294967295 := (mayB_in h.may).1
theorem StI.start {c : Cn} (h : CnF c) : StI c 0 c.start := ⟨h.port, h.pp, rfl, rfl, rfl, rfl, h.inx, fun m hm => (by cases hm), Nat.le_refl _, by simp [Cn.start]⟩
theorem StI.start' {c c' : Cn} (h : CnF c) (e1 : c'.link = c.link) (e2 : c'.ip = c.ip) (e3 : c'.pp = c.pp) (e4 : c'.port = c.port) (e5 : c'.inx = c.inx) : StI c 0 c'.start := ⟨h.port, h.pp, e1, e2, e3, e4, by show 0 ≤ c'.inx ∧ c'.inx ≤ 4294967295; rw [e5]; exact h.inx, fun m hm => (by cases hm), Nat.le_refl _, by simp [Cn.start]⟩
theorem StI.le {c : Cn} {n k : Nat} {y : Stp} (h : StI c n y) (hk : n ≤ k) : StI c k y := ⟨h.port, h.pp, h.e1, h.e2, h.e3, h.e4, h.inx, h.segs, by have := h.cnt; omega, h.told⟩
theorem StI.put {c : Cn} {n : Nat} {y : Stp} (h : StI c n y) (c' : Cn) (e1 : c'.link = y.c.link) (e2 : c'.ip = y.c.ip) (e3 : c'.pp = y.c.pp) (e4 : c'.port = y.c.port) (e5 : 0 ≤ c'.inx ∧ c'.inx ≤ 4294967295) : StI c n { y with c := c' } :=
  ⟨h.port, h.pp, e1.trans h.e1, e2.trans h.e2, e3.trans h.e3, e4.trans h.e4, e5, h.segs, h.cnt, h.told⟩
theorem StI.more {c c' : Cn} {n : Nat} {y : Stp} (h : StI c n y) (m : Sg) (hm : SegI c m) (e1 : c'.link = y.c.link) (e2 : c'.ip = y.c.ip) (e3 : c'.pp = y.c.pp) (e4 : c'.port = y.c.port) (e5 : c'.inx = y.c.inx) : StI c (n + 1) { c := c', out := y.out ++ [m], told := y.told } :=
  ⟨h.port, h.pp, e1.trans h.e1, e2.trans h.e2, e3.trans h.e3, e4.trans h.e4, by show 0 ≤ c'.inx ∧ c'.inx ≤ 4294967295; rw [e5]; exact h.inx, fun x hx => by
    rcases List.mem_append.1 hx with hx | hx
    · exact h.segs x hx
    · rw [List.mem_singleton.1 hx]; exact hm, by have := h.cnt; simp; omega, h.told⟩
theorem StI.segI {c : Cn} {n : Nat} {y : Stp} (h : StI c n y) {seq ack fl win : Int} {data : List Int} (hq : 0 ≤ seq ∧ seq ≤ 4294967295) (ha : 0 ≤ ack ∧ ack ≤ 4294967295) (hf : 0 ≤ fl ∧ fl ≤ 63) (hw : 0 ≤ win ∧ win ≤ 65535) (hd : data.length ≤ 536) : SegI c ⟨y.c.port, y.c.pp, seq, ack, fl, win, data⟩ := by
  refine ⟨?_, h.e4, h.e3, hd⟩
  have := h.port
  have := h.pp
  simp only [sgB, within, Bool.and_eq_true, decide_eq_true_eq, h.e3, h.e4]
  refine ⟨by omega, by omega, by omega, by omega, by omega, by omega, by omega⟩
theorem StI.seg {c : Cn} {n : Nat} {y : Stp} (h : StI c n y) {seq fl : Int} {data : List Int} (hq : 0 ≤ seq ∧ seq ≤ 4294967295) (hf : 0 ≤ fl ∧ fl ≤ 63) (hd : data.length ≤ 536) : StI c (n + 1) (y.seg seq fl data) :=
  h.more _ (h.segI hq h.inx hf (by omega) hd) rfl rfl rfl rfl rfl
theorem StI.acks {c : Cn} {n : Nat} {y : Stp} (h : StI c n y) (hq : 0 ≤ y.c.nx ∧ y.c.nx ≤ 4294967295) : StI c (n + 1) y.acks := h.seg hq (by omega) (by simp)
theorem StI.shut {c : Cn} {n : Nat} {y : Stp} (h : StI c n y) : StI c n y.shut := h.put y.c.shut rfl rfl rfl rfl h.inx
theorem sgB_w {m : Sg} (h : sgB m = true) : (0 ≤ m.sp ∧ m.sp ≤ 65535) ∧ (0 ≤ m.dp ∧ m.dp ≤ 65535) ∧ (0 ≤ m.seq ∧ m.seq ≤ 4294967295) ∧ (0 ≤ m.ack ∧ m.ack ≤ 4294967295) ∧ (0 ≤ m.fl ∧ m.fl ≤ 63) ∧ (0 ≤ m.win ∧ m.win ≤ 65535) ∧ m.data.length ≤ 1460 := by
  simpa only [sgB, within, Bool.and_eq_true, decide_eq_true_eq] using h
theorem bif_p {α : Type} {p : α → Prop} {b : Bool} {x y : α} (h1 : b = true → p x) (h2 : b = false → p y) : p (bif b then x else y) := by cases b <;> simp [h1, h2]
theorem StI.ack {c : Cn} {n : Nat} {y : Stp} (h : StI c n y) {m : Sg} (hm : sgB m = true) (hq : 0 ≤ y.c.nx ∧ y.c.nx ≤ 4294967295) : StI c (n + 1) (y.ack m).1 := by
  obtain ⟨_, _, _, ha, _⟩ := sgB_w hm
  have hp : ∀ c' : Cn, c'.link = y.c.link → c'.ip = y.c.ip → c'.pp = y.c.pp → c'.port = y.c.port → c'.inx = y.c.inx → StI c (n + 1) ({ y with c := c' }) := fun c' a b d e f => (h.put c' a b d e (by rw [f]; exact h.inx)).le (by omega)
  unfold Stp.ack
  refine bif_p (p := fun r : Stp × Bool => StI c (n + 1) r.1) (fun _ => bif_p (p := fun r : Stp × Bool => StI c (n + 1) r.1) (fun _ => ?_) (fun _ => ?_)) (fun _ => bif_p (p := fun r : Stp × Bool => StI c (n + 1) r.1) (fun _ => ?_) (fun _ => bif_p (p := fun r : Stp × Bool => StI c (n + 1) r.1) (fun _ => ?_) (fun _ => bif_p (p := fun r : Stp × Bool => StI c (n + 1) r.1) (fun _ => bif_p (p := fun r : Stp × Bool => StI c (n + 1) r.1) (fun _ => ?_) (fun _ => bif_p (p := fun r : Stp × Bool => StI c (n + 1) r.1) (fun _ => ?_) (fun _ => bif_p (p := fun r : Stp × Bool => StI c (n + 1) r.1) (fun _ => ?_) (fun _ => ?_)))) (fun _ => ?_))))
  · exact hp _ rfl rfl rfl rfl rfl
  · exact h.more (c' := y.c) _ (h.segI ha (by omega) (by omega) (by omega) (by simp)) rfl rfl rfl rfl rfl
  · exact h.acks hq
  · exact hp _ rfl rfl rfl rfl rfl
  · exact hp _ rfl rfl rfl rfl rfl
  · exact hp _ rfl rfl rfl rfl rfl
  · exact hp _ rfl rfl rfl rfl rfl
  · exact hp _ rfl rfl rfl rfl rfl
  · exact hp _ rfl rfl rfl rfl rfl
theorem data_same (y : Stp) (m : Sg) : (y.data m).c.link = y.c.link ∧ (y.data m).c.ip = y.c.ip ∧ (y.data m).c.pp = y.c.pp ∧ (y.data m).c.port = y.c.port ∧ (y.data m).out = y.out ∧ (y.told.length ≤ 2048 → (y.data m).told.length ≤ 2048) := by
  unfold Stp.data
  refine bif_p (p := fun r : Stp => r.c.link = y.c.link ∧ r.c.ip = y.c.ip ∧ r.c.pp = y.c.pp ∧ r.c.port = y.c.port ∧ r.out = y.out ∧ (y.told.length ≤ 2048 → r.told.length ≤ 2048)) (fun _ => ?_) (fun _ => ⟨rfl, rfl, rfl, rfl, rfl, id⟩)
  have ht : (y.dataIn m).told.length ≤ 2048 := reaS_told _ _ _ _
  unfold Stp.dataFin
  have hp : ∀ r : Stp, r.c.link = y.c.link → r.c.ip = y.c.ip → r.c.pp = y.c.pp → r.c.port = y.c.port → r.out = y.out → r.told = (y.dataIn m).told → r.c.link = y.c.link ∧ r.c.ip = y.c.ip ∧ r.c.pp = y.c.pp ∧ r.c.port = y.c.port ∧ r.out = y.out ∧ (y.told.length ≤ 2048 → r.told.length ≤ 2048) :=
    fun r a b d e f g => ⟨a, b, d, e, f, fun _ => by rw [g]; exact ht⟩
  have h0 := hp (y.dataIn m) rfl rfl rfl rfl rfl rfl
  refine bif_p (p := fun r : Stp => r.c.link = y.c.link ∧ r.c.ip = y.c.ip ∧ r.c.pp = y.c.pp ∧ r.c.port = y.c.port ∧ r.out = y.out ∧ (y.told.length ≤ 2048 → r.told.length ≤ 2048)) (fun _ => h0) (fun _ => bif_p (p := fun r : Stp => r.c.link = y.c.link ∧ r.c.ip = y.c.ip ∧ r.c.pp = y.c.pp ∧ r.c.port = y.c.port ∧ r.out = y.out ∧ (y.told.length ≤ 2048 → r.told.length ≤ 2048)) (fun _ => bif_p (p := fun r : Stp => r.c.link = y.c.link ∧ r.c.ip = y.c.ip ∧ r.c.pp = y.c.pp ∧ r.c.port = y.c.port ∧ r.out = y.out ∧ (y.told.length ≤ 2048 → r.told.length ≤ 2048)) (fun _ => h0) (fun _ => bif_p (p := fun r : Stp => r.c.link = y.c.link ∧ r.c.ip = y.c.ip ∧ r.c.pp = y.c.pp ∧ r.c.port = y.c.port ∧ r.out = y.out ∧ (y.told.length ≤ 2048 → r.told.length ≤ 2048)) (fun _ => ?_) (fun _ => bif_p (p := fun r : Stp => r.c.link = y.c.link ∧ r.c.ip = y.c.ip ∧ r.c.pp = y.c.pp ∧ r.c.port = y.c.port ∧ r.out = y.out ∧ (y.told.length ≤ 2048 → r.told.length ≤ 2048)) (fun _ => ?_) (fun _ => ?_)))) (fun _ => h0))
  all_goals exact hp _ rfl rfl rfl rfl rfl rfl
theorem StI.data {c : Cn} {n : Nat} {y : Stp} (h : StI c n y) (m : Sg) (hI : CnI y.c) : StI c n (y.data m) := by
  obtain ⟨a, b, d, e, f, g⟩ := data_same y m
  exact ⟨h.port, h.pp, a.trans h.e1, b.trans h.e2, d.trans h.e3, e.trans h.e4, (data_I hI m).inx, by rw [f]; exact h.segs, by rw [f]; exact h.cnt, g h.told⟩
theorem StI.pump1 {c : Cn} {n : Nat} {y : Stp} (h : StI c n y) (hP : PumpOk y.c) : StI c (n + 1) y.pump1 := by
  have := pumpN_le hP
  exact h.more (c' := { y.c with nx := wadd y.c.nx y.c.pumpN }) _ (h.segI hP.nx h.inx (by omega) (by omega) (by simp; omega)) rfl rfl rfl rfl rfl
theorem StI.pumpGo {c : Cn} : ∀ (k : Nat) {n : Nat} {y : Stp}, StI c n y → PumpOk y.c → StI c (n + k) (pumpGo k y)
  | 0, n, y, h, _ => h
  | k + 1, n, y, h, hP => by
    rw [Go.Proofs.Ythkjiihphdpagaa.pumpGo]
    by_cases hn : y.c.pumpN ≤ 0
    · rw [if_pos hn]; exact h.le (by omega)
    · rw [if_neg hn]
      exact (StI.pumpGo k (h.pump1 hP) (pump1_ok hP (by omega))).le (by omega)
theorem StI.pump {c : Cn} {n : Nat} {y : Stp} (h : StI c n y) (hI : CnI y.c) (ht : y.c.talks = true) : StI c (n + y.c.out.length + 1) y.pump := by
  have hP := hI.pumpOk ht
  have h1 := h.pumpGo y.c.out.length hP
  obtain ⟨hP1, he⟩ := pumpGo_ok y.c.out.length hP
  unfold Stp.pump
  obtain ⟨z, hz⟩ : ∃ z, Go.Proofs.Ythkjiihphdpagaa.pumpGo y.c.out.length y = z := ⟨_, rfl⟩
  rw [hz] at h1 hP1 ⊢
  have h2 : StI c (n + y.c.out.length + 1) z.pump2 := by
    unfold Stp.pump2
    by_cases hc : z.c.closing = true ∧ z.c.sent = z.c.len
    · rw [if_pos hc]
      exact h1.more (c' := { z.c with nx := wadd z.c.nx 1, st := if z.c.st = 2 then 3 else 7 }) _ (h1.segI hP1.nx h1.inx (by omega) (by omega) (by simp)) rfl rfl rfl rfl rfl
    · rw [if_neg hc]; exact h1.le (by omega)
  unfold Stp.pump3
  split
  · exact h2.put _ rfl rfl rfl rfl h2.inx
  · exact h2
theorem StI.late {c : Cn} {n : Nat} {y : Stp} (h : StI c n y) : StI c n y.late := by
  unfold Stp.late
  exact bif_p (fun _ => h.put _ rfl rfl rfl rfl h.inx) (fun _ => h)
theorem StI.takeMore {c : Cn} {n : Nat} {y : Stp} (h : StI c n y) (m : Sg) (hI : CnI y.c) : StI c (n + 8194) (y.more m) := by
  have h1 := h.data m hI
  have hI1 := data_I hI m
  unfold Stp.more
  have h2 : StI c (n + 1) ((y.data m).ackLen m) := by
    unfold Stp.ackLen
    exact bif_p (fun _ => h1.acks hI1.nx) (fun _ => h1.le (by omega))
  have hI2 := ackLen_I hI1 m
  refine StI.late ?_
  unfold Stp.pumpT
  refine bif_p (fun ht => (h2.pump hI2 ht).le (by have := hI2.len; omega)) (fun _ => h2.le (by omega))
theorem take_S {c : Cn} (h : CnI c) {m : Sg} (hm : sgB m = true) : StI c 8200 (c.takes m) := by
  have h0 := StI.start h.toCnF
  have hq : 0 ≤ c.start.c.nx ∧ c.start.c.nx ≤ 4294967295 := h.nx
  unfold Cn.takes Stp.take
  refine bif_p (fun _ => h0.le (by omega)) (fun hs => bif_p (fun _ => bif_p (fun _ => bif_p (fun _ => bif_p (fun _ => h0.le (by omega)) (fun _ => bif_p (fun _ => ?_) (fun _ => (h0.ack hm hq).le (by omega)))) (fun _ => (h0.acks hq).le (by omega))) (fun _ => h0.shut.le (by omega))) (fun _ => bif_p (fun _ => bif_p (fun _ => ?_) (fun _ => (h0.acks hq).le (by omega))) (fun _ => h0.le (by omega))))
  · exact ((h0.ack hm hq).takeMore m (ack_I (x := c.start) h hm (by simpa using hs))).le (by omega)
  · have hz := (h0.acks hq).put { c with tm := tmNew 20 } rfl rfl rfl rfl h.inx
    exact hz.le (by omega)
theorem sendE_t {c : Cn} {xs : List Int} (he : c.sendE xs = 0) : c.talks = true ∧ c.closing = false ∧ ¬ (8192 - (c.out.length : Int) < (xs.length : Int)) := by
  unfold Cn.sendE at he
  cases h1 : c.closing <;> cases h2 : c.talks <;> rw [h1, h2] at he <;> simp at he ⊢
  cases h3 : decide (8192 - (c.out.length : Int) < (xs.length : Int)) with
  | true => rw [h3] at he; simp at he
  | false => simpa using h3
theorem out_I {c : Cn} (h : CnI c) {xs : List Int} (he : c.sendE xs = 0) : CnI { c with out := c.out ++ xs } ∧ ({ c with out := c.out ++ xs } : Cn).talks = true := by
  obtain ⟨ht, _, hl⟩ := sendE_t he
  have hst : c.st = 2 ∨ c.st = 5 := by simpa [Cn.talks] using ht
  have hlen := h.len
  refine ⟨⟨⟨h.link, h.ip, h.pp, h.port, h.st, h.una, h.nx, h.win, by simp; omega, h.may, h.tm⟩, ⟨fun e => ?_, fun e => ?_, fun e => ?_, fun e => ?_, fun _ => ?_⟩⟩, ht⟩
  · have e : c.st = 0 := e; omega
  · have e : c.st = 1 := e; omega
  · have e : c.st = 4 ∨ c.st = 8 := e; omega
  · have e : c.st = 3 ∨ c.st = 6 ∨ c.st = 7 := e; omega
  · obtain ⟨a, b⟩ := h.num.e hst
    exact ⟨a, by show c.sent ≤ ((c.out ++ xs).length : Int); simp; omega⟩
theorem send_I {c : Cn} (h : CnI c) {xs : List Int} (he : c.sendE xs = 0) : CnI (c.sends xs).c ∧ StI c 8200 (c.sends xs) := by
  obtain ⟨h1, h2⟩ := out_I h he
  have hI : CnI (({ c with out := c.out ++ xs } : Cn).start).c := h1
  have h3 := (StI.start' (c' := { c with out := c.out ++ xs }) h.toCnF rfl rfl rfl rfl rfl).pump hI h2
  exact ⟨pump_I hI h2, h3.le (by have := hI.len; omega)⟩
theorem abort_I {c : Cn} (h : CnI c) : CnI c.aborts.c ∧ StI c 8200 c.aborts := by
  have h0 := StI.start h.toCnF
  unfold Cn.aborts Stp.abort
  exact bif_p (p := fun r : Stp => CnI r.c ∧ StI c 8200 r) (fun _ => ⟨h.toCnF.shut, h0.shut.le (by omega)⟩) (fun _ => ⟨h.toCnF.shut, (h0.seg (seq := c.nx) (fl := 20) (data := []) h.nx (by omega) (by simp)).shut.le (by omega)⟩)
theorem tmBeat_ok {t : Tm} (h : tmB t = true) : tmB (tmBeat t) = true := by
  simp only [tmB, Bool.and_eq_true, decide_eq_true_eq, Bool.or_eq_true, beq_iff_eq] at h ⊢
  obtain ⟨⟨a1, a2, a3⟩, a4⟩ := h
  unfold tmBeat
  dsimp only
  by_cases ho : t.on = true
  · rw [if_pos ho]; exact ⟨⟨by omega, by omega, a3⟩, .inl ho⟩
  · rw [if_neg ho]; exact ⟨⟨a1, a2, a3⟩, a4⟩
theorem tmBack_ok {t : Tm} (h : tmB t = true) (ht : t.on = true) (h8 : t.tries ≠ 8) : tmB (tmBack t) = true := by
  simp only [tmB, Bool.and_eq_true, decide_eq_true_eq, Bool.or_eq_true, beq_iff_eq] at h ⊢
  unfold tmBack
  dsimp only
  exact ⟨by omega, .inl ht⟩
theorem again_I {c : Cn} (h : CnI c) (h0 : c.st ≠ 0) (h8 : c.st ≠ 8) : CnI c.start.again.c ∧ StI c 8200 c.start.again := by
  have s0 := StI.start h.toCnF
  have es : c.start.c = c := rfl
  have hlen := h.len
  unfold Stp.again
  rw [es]
  refine bif_p (p := fun r : Stp => CnI r.c ∧ StI c 8200 r) (fun _ => ⟨h, (s0.seg (seq := c.una) (fl := 18) (data := []) h.una (by omega) (by simp)).le (by omega)⟩) (fun h1 => bif_p (p := fun r : Stp => CnI r.c ∧ StI c 8200 r) (fun _ => ⟨h, (s0.seg (seq := c.una) (fl := 24) h.una (by omega) (by simp; omega)).le (by omega)⟩) (fun _ => bif_p (p := fun r : Stp => CnI r.c ∧ StI c 8200 r) (fun _ => ⟨h, (s0.seg (seq := c.una) (fl := 17) (data := []) h.una (by omega) (by simp)).le (by omega)⟩) (fun hs => bif_p (p := fun r : Stp => CnI r.c ∧ StI c 8200 r) (fun hl => ⟨?_, (s0.more (c' := { c with nx := wadd c.nx 1 }) _ (s0.segI (seq := c.nx) (fl := 24) (win := 2048) h.nx h.inx (by omega) (by omega) (by simp; omega)) rfl rfl rfl rfl rfl).le (by omega)⟩) (fun _ => ⟨h.tm_of tm0_ok h0, (s0.put { c with tm := tm0 } rfl rfl rfl rfl h.inx).le (by omega)⟩))))
  have hs' : ¬ 0 < c.sent := by simpa using hs
  have hl' : 0 < (c.out.length : Int) := by simpa using hl
  have h1' : c.st ≠ 1 := by simpa using h1
  have hst := h.st
  have hst2 : c.st = 2 ∨ c.st = 5 := by
    rcases (by omega : c.st = 2 ∨ c.st = 5 ∨ (c.st = 4 ∨ c.st = 8) ∨ (c.st = 3 ∨ c.st = 6 ∨ c.st = 7)) with e | e | e | e
    · exact .inl e
    · exact .inr e
    · have := (h.num.b e).2.2; rw [this] at hl'; simp at hl'
    · have := (h.num.d e).2; omega
  obtain ⟨a, b⟩ := h.num.e hst2
  have hb := wadd_bd c.nx 1
  have hsn : wdiff (wadd c.nx 1) c.una = c.sent + 1 := by
    unfold Cn.sent at *
    rw [wdiff_add a (by decide) (by omega)]
  refine ⟨⟨h.link, h.ip, h.pp, h.port, h.st, h.una, by show 0 ≤ wadd c.nx 1 ∧ wadd c.nx 1 ≤ 4294967295; omega, h.win, h.len, h.may, h.tm⟩, ⟨fun e => ?_, fun e => ?_, fun e => ?_, fun e => ?_, fun _ => ?_⟩⟩
  · have e : c.st = 0 := e; omega
  · have e : c.st = 1 := e; omega
  · have e : c.st = 4 ∨ c.st = 8 := e; omega
  · have e : c.st = 3 ∨ c.st = 6 ∨ c.st = 7 := e; omega
  · show 0 ≤ wdiff (wadd c.nx 1) c.una ∧ wdiff (wadd c.nx 1) c.una ≤ (c.out.length : Int)
    rw [hsn]; omega
theorem beat_I {c : Cn} (h : CnI c) : CnI { c with tm := tmBeat c.tm } := by
  refine ⟨⟨h.link, h.ip, h.pp, h.port, h.st, h.una, h.nx, h.win, h.len, h.may, tmBeat_ok h.tm⟩, ⟨fun e => ?_, h.num.a, h.num.b, h.num.d, h.num.e⟩⟩
  obtain ⟨a, b, d⟩ := h.num.z e
  exact ⟨a, b, by show tmBeat c.tm = tm0; rw [d]; rfl⟩
theorem StI.of {c c' : Cn} {n : Nat} {y : Stp} (h : StI c' n y) (e1 : c'.link = c.link) (e2 : c'.ip = c.ip) (e3 : c'.pp = c.pp) (e4 : c'.port = c.port) : StI c n y :=
  ⟨by rw [← e4]; exact h.port, by rw [← e3]; exact h.pp, h.e1.trans e1, h.e2.trans e2, h.e3.trans e3, h.e4.trans e4, h.inx, fun m hm => ⟨(h.segs m hm).ok, (h.segs m hm).sp.trans e4, (h.segs m hm).dp.trans e3, (h.segs m hm).len⟩, h.cnt, h.told⟩
theorem tick_I {c : Cn} (h : CnI c) : CnI c.ticks.c ∧ StI c 8200 c.ticks := by
  have h1 := beat_I h
  have s1 := (StI.start h1.toCnF).of (c := c) rfl rfl rfl rfl
  unfold Cn.ticks
  refine bif_p (p := fun r : Stp => CnI r.c ∧ StI c 8200 r) (fun hr => bif_p (p := fun r : Stp => CnI r.c ∧ StI c 8200 r) (fun _ => ⟨h1.toCnF.shut, s1.shut.le (by omega)⟩) (fun h8 => bif_p (p := fun r : Stp => CnI r.c ∧ StI c 8200 r) (fun _ => ?_) (fun ht => ?_))) (fun _ => ⟨h1, s1.le (by omega)⟩)
  · obtain ⟨a, b⟩ := abort_I h1
    exact ⟨a, b.of rfl rfl rfl rfl⟩
  · have hon : c.tm.on = true := by
      unfold tmRings at hr
      rw [Bool.and_eq_true] at hr
      exact hr.1
    have h0 : c.st ≠ 0 := fun e => by
      obtain ⟨_, _, d⟩ := h.num.z e
      rw [d] at hon; cases hon
    have h2 : CnI ({ c with tm := tmBack (tmBeat c.tm) } : Cn) := h1.tm_of (c := { c with tm := tmBeat c.tm }) (tmBack_ok (tmBeat_ok h.tm) hon (by have := ht; simp only [beq_eq_false_iff_ne] at this; exact this)) h0
    obtain ⟨a, b⟩ := again_I h2 h0 (by simpa using h8)
    exact ⟨a, b.of rfl rfl rfl rfl⟩
theorem open_I {link ip iss : Int} {m : Sg} (h : openB link ip iss m = true) : CnI (opens link ip iss m).c ∧ StI (opens link ip iss m).c 8200 (opens link ip iss m) := by
  unfold openB at h
  simp only [Bool.and_eq_true, within, decide_eq_true_eq] at h
  obtain ⟨hl, hi, hs, hm, hf⟩ := h
  obtain ⟨h1, h2, h3, h4, h5, h6, h7⟩ := sgB_w hm
  have hb := wadd_bd iss 1
  have hb2 := wadd_bd m.seq 1
  have hI : CnI (⟨link, ip, m.sp, m.dp, 1, iss, wadd iss 1, m.win, [], wadd m.seq 1, [], false, tmNew 3⟩ : Cn) := by
    refine ⟨⟨hl, hi, h1, h2, by show (0:Int) ≤ 1 ∧ (1:Int) ≤ 8; omega, hs, by show 0 ≤ wadd iss 1 ∧ wadd iss 1 ≤ 4294967295; omega, h6, by simp, may_next, tm3_ok⟩, ⟨fun e => ?_, fun _ => ?_, fun e => ?_, fun e => ?_, fun e => ?_⟩⟩
    · exact absurd e (by show ¬ (1 : Int) = 0; decide)
    · show wdiff (wadd iss 1) iss = 1
      unfold wdiff wadd; omega
    · exact absurd e (by show ¬ ((1 : Int) = 4 ∨ (1 : Int) = 8); decide)
    · exact absurd e (by show ¬ ((1 : Int) = 3 ∨ (1 : Int) = 6 ∨ (1 : Int) = 7); decide)
    · exact absurd e (by show ¬ ((1 : Int) = 2 ∨ (1 : Int) = 5); decide)
  exact ⟨hI, ((StI.start hI.toCnF).seg (seq := iss) (fl := 18) (data := []) hs (by omega) (by simp)).le (by omega)⟩
end Go.Proofs.Ythkjiihphdpagaa

/- The statement wakes; how much a script weighs; what fits: on data. Conditions: lengths. -/
namespace Go.Proofs.Ythkjiihphdpagaa
open Go.RowKit
set_option linter.unusedVariables false
set_option linter.unusedSimpArgs false
set_option maxRecDepth 100000
set_option maxHeartbeats 4000000
theorem wake_open : opens 1 7 100 (⟨5, 1883, 50, 0, 2, 1000, []⟩ : Sg) = (⟨⟨1, 7, 5, 1883, 1, 100, 101, 1000, [], 51, [], false, ⟨true, 3, 3, 0⟩⟩, [⟨1883, 5, 100, 51, 18, 2048, []⟩], []⟩ : Stp) := by kernel_rfl
theorem wake_take : (Cn.takes (Stp.c (⟨⟨1, 7, 5, 1883, 1, 100, 101, 1000, [], 51, [], false, ⟨true, 3, 3, 0⟩⟩, [⟨1883, 5, 100, 51, 18, 2048, []⟩], []⟩ : Stp)) (⟨5, 1883, 51, 101, 16, 1000, []⟩ : Sg)).out = [] ∧ (Cn.takes (Stp.c (⟨⟨1, 7, 5, 1883, 1, 100, 101, 1000, [], 51, [], false, ⟨true, 3, 3, 0⟩⟩, [⟨1883, 5, 100, 51, 18, 2048, []⟩], []⟩ : Stp)) (⟨5, 1883, 51, 101, 16, 1000, []⟩ : Sg)).c.st = 2 := by
  constructor <;> kernel_rfl
theorem wakes16_l : ACallL Try.prog 14 [] [.perm] (.val (.bool true)) [.perm] := by
  have cO := tcpOpenA_l 1 7 100 (⟨5, 1883, 50, 0, 2, 1000, []⟩ : Sg) (by decide +kernel)
  rw [wake_open] at cO
  have cT := tcpTake_l (Stp.c (⟨⟨1, 7, 5, 1883, 1, 100, 101, 1000, [], 51, [], false, ⟨true, 3, 3, 0⟩⟩, [⟨1883, 5, 100, 51, 18, 2048, []⟩], []⟩ : Stp)) (⟨5, 1883, 51, 101, 16, 1000, []⟩ : Sg) (by decide +kernel) (by decide +kernel)
  obtain ⟨h1, h2⟩ := wake_take
  obtain ⟨y, hy⟩ : ∃ r, Cn.takes (Stp.c (⟨⟨1, 7, 5, 1883, 1, 100, 101, 1000, [], 51, [], false, ⟨true, 3, 3, 0⟩⟩, [⟨1883, 5, 100, 51, 18, 2048, []⟩], []⟩ : Stp)) (⟨5, 1883, 51, 101, 16, 1000, []⟩ : Sg) = r := ⟨_, rfl⟩
  rw [hy] at cT h1 h2
  rw [h1] at cT
  unfold stA at cO
  dsimp only [cnG, cnR, cnL, sgG, sgR, sgL, tmC] at cO cT
  rw [h2] at cT
  refine ACallL.of_ev mixed Try.func14 rfl (fun a w => Try.call14 a w) (congrArg Array.toList Try.results14) Try.ntmps14 fun B hB => ?_
  ((conv => whnf); (repeat' ((first | (with_reducible first | refine qif_n ?_ | refine qif_t ‹_› ?_ | refine qif_f ‹_› ?_) | ((with_reducible refine qif_t ?_ ?_); focus decide) | ((with_reducible refine qif_f ?_ ?_); focus decide) | (with_reducible refine And.intro (orderOk_i ?ho) ?_; (case ho => kernel_rfl)) | (with_reducible first | refine qif_i (fun _ => ?_) (fun _ => ?_) | refine frcVs_i ?_ | refine frcRs_i ?_) | ((with_reducible refine qCall.pure (num16_l _) ?_ ?_ ?_ ?_); rotate_left 4; exact trivial; exact plT; exact plT)) <;> (conv => whnf))))
  ((with_reducible refine qCall.of (cO) [] [(0, 0)] [] [(1, 1), (2, 2), (3, 3), (4, 4), (5, 5)] [(1, .uniq), (2, .uniq), (3, .uniq), (4, .uniq), (5, .uniq)] (stA (⟨⟨1, 7, 5, 1883, 1, 100, 101, 1000, [], 51, [], false, ⟨true, 3, 3, 0⟩⟩, [⟨1883, 5, 100, 51, 18, 2048, []⟩], []⟩ : Stp)) ?hk ?_); (case hk => rfl); (conv => whnf); (repeat (refine And.intro ?_ ?_; exact sideT; (conv => whnf))); (fail_if_success (with_reducible first | refine And.intro (eqv_i ?_) ?_ | refine And.intro (ren_i ?_) ?_)))
  ((conv => whnf); (repeat' ((first | (with_reducible first | refine qif_n ?_ | refine qif_t ‹_› ?_ | refine qif_f ‹_› ?_) | ((with_reducible refine qif_t ?_ ?_); focus decide) | ((with_reducible refine qif_f ?_ ?_); focus decide) | (with_reducible refine And.intro (orderOk_i ?ho) ?_; (case ho => kernel_rfl)) | (with_reducible first | refine qif_i (fun _ => ?_) (fun _ => ?_) | refine frcVs_i ?_ | refine frcRs_i ?_) | ((with_reducible refine qCall.pure (num16_l _) ?_ ?_ ?_ ?_); rotate_left 4; exact trivial; exact plT; exact plT)) <;> (conv => whnf))))
  ((with_reducible refine qCall.of (cT) [] [(0, 0), (0, 1), (0, 2), (0, 3)] [] [(1, 7), (2, 8), (3, 9), (4, 10), (5, 11), (6, 12)] [(7, .uniq), (8, .uniq), (9, .uniq), (10, .uniq), (11, .uniq), (12, .uniq)] (.tup [.agg (cnL (gL 7 y.c.out) (.list 8 2 (y.c.parts.map (prg 9))) ({ y.c with st := 2 } : Cn)), .glist 10 7 [], gL 12 y.told, .val (.int .i64 0)]) ?hk ?_); (case hk => rfl); (conv => whnf); (repeat (refine And.intro ?_ ?_; exact sideT; (conv => whnf))); (fail_if_success (with_reducible first | refine And.intro (eqv_i ?_) ?_ | refine And.intro (ren_i ?_) ?_)))
  ((conv => whnf); (repeat' ((first | (with_reducible first | refine qif_n ?_ | refine qif_t ‹_› ?_ | refine qif_f ‹_› ?_) | ((with_reducible refine qif_t ?_ ?_); focus decide) | ((with_reducible refine qif_f ?_ ?_); focus decide) | (with_reducible refine And.intro (orderOk_i ?ho) ?_; (case ho => kernel_rfl)) | (with_reducible first | refine qif_i (fun _ => ?_) (fun _ => ?_) | refine frcVs_i ?_ | refine frcRs_i ?_) | ((with_reducible refine qCall.pure (num16_l _) ?_ ?_ ?_ ?_); rotate_left 4; exact trivial; exact plT; exact plT)) <;> (conv => whnf))))
  all_goals first | ((refine qConv.of hB [] [(0, 0)] [] (by rfl) ?_; focus ((conv => whnf); (repeat (refine And.intro ?_ ?_; rotate_left; (conv => whnf))); exact trivial; all_goals (try exact andT))); all_goals rfl; done) | (exfalso; simp_all; done)
structure Act where
  dw : Int
  n : Int
  m : Int
  s : Sg
  fit : Bool
  b : List Int
end Go.Proofs.Ythkjiihphdpagaa

/- A first answer that nobody hears: plain law. No condition. -/
namespace Go.Proofs.Ythkjiihphdpagaa
open Go.RowKit
set_option linter.unusedVariables false
set_option linter.unusedSimpArgs false
set_option maxRecDepth 100000
def wT (n : Nat) : Int := if n = 0 then 3 else if n = 1 then 6 else if n = 2 then 12 else if n = 3 then 24 else 48
def cT (iss : Int) (n : Nat) (g : Int) : Cn := ⟨1, 2, 3, 4, 1, iss, wadd iss 1, 0, [], 10, [], false, ⟨true, wT n - g, wT n, n⟩⟩
end Go.Proofs.Ythkjiihphdpagaa

/- A first answer that nobody hears: the law on data. Condition: lengths that an argument may have. -/
namespace Go.Proofs.Ythkjiihphdpagaa
open Go.RowKit
set_option linter.unusedVariables false
set_option linter.unusedSimpArgs false
set_option maxRecDepth 100000
set_option maxHeartbeats 4000000
structure Talk where
  a : List Int
  b : List Int
  size : Int
  iss : Int
  lost : List Int
  wins : List Int
abbrev nR1 (n : Int) : List AV := [.val (.int .i64 n)]
abbrev tkR (t : Talk) : List AV := [bL 0 t.a, bL 0 t.b, .val (.int .i64 t.size), .val (.int .i64 t.iss), .list 0 1 (t.lost.map nR1), .list 0 1 (t.wins.map nR1)]
theorem pl_nums (l : List Int) : PlRows (l.map nR1) := by
  refine PlRows.mapF _ _ fun m _ => ?_
  intro x hx
  simp only [nR1, List.mem_cons, List.not_mem_nil, or_false] at hx
  subst hx
  exact .val _
theorem word_of (i : Int) : ∃ w, IntKind.i64.wrap (IntKind.u32.wrap i) = w ∧ 0 ≤ w ∧ w ≤ 4294967295 := by
  refine ⟨_, rfl, ?_⟩
  rw [IntKind.wrap_u32, IntWalk.i64_in _ (by omega)]
  omega
abbrev cnQ (row : List AV) : Own := .live ⟨16, 33, [row]⟩
end Go.Proofs.Ythkjiihphdpagaa

/- The argument of the statements on tcp that are told as talks, as data. No condition. -/
namespace Go.Proofs.Ythkjiihphdpagaa
open Go.RowKit
set_option linter.unusedVariables false
set_option linter.unusedSimpArgs false
set_option maxRecDepth 100000
set_option maxHeartbeats 4000000
theorem cells_ints : Try.prog.cellsOf 23 = 1 := by kernel_rfl
theorem cells_talk : Try.prog.cellsOf 25 = 6 := by kernel_rfl
theorem ty_ints {q : Nat} {avs : List AV} (h : TyZV Try.prog (q + 2) 23 avs) : ∃ xs : List Int, avs = [.list 0 1 (xs.map nR1)] ∧ xs.length ≤ 140737488351232 := by
  unfold TyZV at h
  rw [Try.underlying23] at h
  obtain ⟨rows, e, _, hz, hr⟩ := h
  obtain ⟨xs, rfl, hx⟩ := rows_shape (f := nR1) (Q := fun _ => True) (fun row (h : _ ∧ _) => by obtain ⟨i, e, _⟩ := ty_int h.2; exact ⟨i, e, trivial⟩) rows hr
  rw [size_int, List.length_map] at hz
  exact ⟨xs, by rw [e, cells_int], by have := reach_lt; omega⟩
theorem ty_talk {avs : List AV} (h : TyZV Try.prog 8 25 avs) : ∃ t : Talk, avs = tkR t ∧ t.a.length ≤ 140737488351232 ∧ t.b.length ≤ 140737488351232 ∧ t.lost.length ≤ 140737488351232 ∧ t.wins.length ≤ 140737488351232 := by
  unfold TyZV at h
  rw [Try.underlying25] at h
  obtain ⟨hl, hx⟩ := h
  rw [cells_talk] at hl
  match avs, hl with
  | [c0, c1, c2, c3, c4, c5], _ =>
    simp only [List.forall_mem_cons, cells_int, cells_bytes, cells_ints, List.drop, List.take] at hx
    obtain ⟨h0, h1, h2, h3, h4, h5, -⟩ := hx
    obtain ⟨a, e0, b0⟩ := ty_bytes (q := 5) h0
    obtain ⟨b, e1, b1⟩ := ty_bytes (q := 5) h1
    obtain ⟨i2, e2, -⟩ := ty_int h2
    obtain ⟨i3, e3, -⟩ := ty_int h3
    obtain ⟨l, e4, b4⟩ := ty_ints (q := 5) h4
    obtain ⟨w, e5, b5⟩ := ty_ints (q := 5) h5
    simp only [List.cons.injEq, and_true] at e0 e1 e2 e3 e4 e5
    subst e0 e1 e2 e3 e4 e5
    exact ⟨⟨a, b, i2, i3, l, w⟩, rfl, b0.1, b1.1, b4, b5⟩
end Go.Proofs.Ythkjiihphdpagaa

/- A stream's pieces in whatever order: plain law. Condition: bounds on lengths. -/
namespace Go.Proofs.Ythkjiihphdpagaa
open Go.RowKit
set_option linter.unusedVariables false
set_option linter.unusedSimpArgs false
set_option maxRecDepth 100000
set_option maxHeartbeats 4000000
theorem wdiff_near (f : Int) {a b : Int} (h0 : -2147483648 < a - b) (h1 : a - b < 2147483648) : wdiff (wadd f a) (wadd f b) = a - b := by
  unfold wdiff wadd
  omega
theorem runsT_congr {nx : Int} {w v : Win} {lo : Nat} (h : ∀ i, lo ≤ i → at_ w i = at_ v i) : ∀ n, runsT nx w lo n = runsT nx v lo n
  | 0 => rfl
  | n + 1 => by
    have ih := runsT_congr (nx := nx) h n
    by_cases hn : n < lo
    · rw [runsT_le _ _ _ _ (by omega), runsT_le _ _ _ _ (by omega)]
    · have e := h n (by omega)
      have es : isS w n = isS v n := by rw [at_isS, at_isS, e]
      cases hs : isS w n with
      | false => rw [runsT_no hs, runsT_no (es ▸ hs), ih]
      | true =>
        have hv := es ▸ hs
        have ev : (vals w).getD n 0 = (vals v).getD n 0 := by
          have h1 := at_vals hs
          have h2 := at_vals hv
          rw [e, h2] at h1
          exact (Option.some.inj h1).symm
        by_cases hl : n = lo
        · rw [runsT_y2 (by omega) hs (.inl hl.symm), runsT_y2 (by omega) hv (.inl hl.symm), ih, ev]
        · have e2 : isS w (n - 1) = isS v (n - 1) := by rw [at_isS, at_isS, h (n - 1) (by omega)]
          cases hp : isS w (n - 1) with
          | false => rw [runsT_y2 (by omega) hs (.inr hp), runsT_y2 (by omega) hv (.inr (e2 ▸ hp)), ih, ev]
          | true => rw [runsT_y1 (by omega) hs hp, runsT_y1 (by omega) hv (e2 ▸ hp), ih, ev]
theorem runsT_fewer (nx : Int) (w : Win) (t : Nat) : ∀ n, (runsT nx w t n).length ≤ (runsT nx w 0 n).length
  | 0 => Nat.le_refl _
  | n + 1 => by
    have ih := runsT_fewer nx w t n
    by_cases hn : n < t
    · rw [runsT_le _ _ _ _ (by omega)]; simp
    · cases hs : isS w n with
      | false => rw [runsT_no hs, runsT_no hs]; exact ih
      | true =>
        by_cases hl : n = t
        · rw [runsT_y2 (by omega) hs (.inl hl.symm), runsT_le _ _ _ _ (by omega)]
          have := runsT_ne (nx := nx) (Nat.zero_le n) hs
          have h2 := List.length_pos_iff.2 this
          simp; omega
        · cases hp : isS w (n - 1) with
          | false => rw [runsT_y2 (by omega) hs (.inr hp), runsT_y2 (by omega) hs (.inr hp)]; simp; omega
          | true => rw [runsT_y1 (by omega) hs hp, runsT_y1 (by omega) hs hp, addLast_len, addLast_len]; exact ih
theorem Runs.out {nx : Int} {w : Win} (hw : w.length = 2048) {t : Nat} : ∀ {lo : Nat} {l : List Pt}, Runs nx w lo l → t ≤ lo → ∀ i : Nat, 2048 ≤ t + i → getP (wadd nx t) l i = none := by
  intro lo l h
  induction h with
  | nil lo h => intro _ i _; rfl
  | cons lo j m l h1 h2 h3 h4 h5 h6 h7 ih =>
    intro ht i hi
    have e := wdiff_add2 nx (a := j) (b := t) (by omega) (by omega)
    have sl := seg_len (w := w) (j := j) (m := m) (by omega)
    rw [getP, ih (by omega) i hi]
    simp only [e]
    rw [show ((j : Int) - t).toNat = j - t by omega]
    split
    · rw [List.getElem?_eq_none (by omega)]; rfl
    · rfl
structure StInv (B : List Int) (f : Int) (t : Nat) (n : Int) (ps : List Pt) : Prop where
  le : t ≤ B.length
  nx : n = wadd f t
  may : mayB n ps = true
  has : ∀ (i : Nat) (c : Int), getP n ps i = some c → B[t + i]? = some c
section
variable {B : List Int} {f : Int} {t : Nat} {n : Int} {ps : List Pt} {a size : Nat}
theorem StInv.win (h : StInv B f t n ps) (hB : B.length ≤ 3000) (ha : a ≤ B.length) (hs : size ≤ 2000) {i : Nat} (hi : i < 2048) {c : Int} (hc : at_ (winS n ps (wadd f a) ((B.drop a).take size)) i = some c) : B[t + i]? = some c := by
  rw [winS_get _ _ _ _ _ hi] at hc
  cases hg : getP n ps i with
  | some c' => rw [hg] at hc; cases hc; exact h.has i _ hg
  | none =>
    rw [hg] at hc
    have hle := h.le
    have e := wdiff_near f (a := a) (b := t) (by omega) (by omega)
    rw [← h.nx] at e
    rw [e] at hc
    simp only [Option.none_or] at hc
    split at hc
    · rename_i hcond
      rw [List.getElem?_take] at hc
      split at hc
      · rw [List.getElem?_drop] at hc
        rw [show t + i = a + ((i : Int) - ((a : Int) - t)).toNat by omega]
        exact hc
      · cases hc
    · cases hc
theorem StInv.step (h : StInv B f t n ps) (hB : B.length ≤ 3000) (ha : a ≤ B.length) (hs : size ≤ 2000) :
    ∃ t', t ≤ t' ∧ StInv B f t' (reaS n ps (wadd f a) ((B.drop a).take size)).1 (reaS n ps (wadd f a) ((B.drop a).take size)).2.1 ∧ (reaS n ps (wadd f a) ((B.drop a).take size)).2.2 = (B.drop t).take (t' - t) ∧
      (a ≤ t → a + size ≤ t' ∨ t' = B.length) := by
  obtain ⟨W, hW⟩ : ∃ W, winS n ps (wadd f a) ((B.drop a).take size) = W := ⟨_, rfl⟩
  have lW : W.length = 2048 := by rw [← hW, winS_len]
  have hwin : ∀ (i : Nat) (c : Int), i < 2048 → at_ W i = some c → B[t + i]? = some c := fun i c hi hc => h.win hB ha hs hi (by rw [hW]; exact hc)
  have hL := lead_le W
  rw [lW] at hL
  have hle := h.le
  have hall := lead_all W
  obtain ⟨L, hLe⟩ : ∃ L, lead W = L := ⟨_, rfl⟩
  have hno := lead_no W
  rw [hLe] at hL hall hno
  have hin : ∀ i, i < L → ∃ c, at_ W i = some c ∧ B[t + i]? = some c := fun i hi => by
    have h1 := hall i hi
    rw [at_isS] at h1
    obtain ⟨c, hc⟩ := Option.isSome_iff_exists.1 h1
    exact ⟨c, hc, hwin i c (by omega) hc⟩
  have htL : t + L ≤ B.length := by
    rcases Nat.eq_zero_or_pos L with h0 | h0
    · omega
    · obtain ⟨c, _, hc⟩ := hin (L - 1) (by omega)
      have := (List.getElem?_eq_some_iff.1 hc).1
      omega
  have hseg : seg W 0 L = (B.drop t).take L := by
    refine List.ext_getElem? fun k => ?_
    by_cases hk : k < L
    · have h1 := seg_get (w := W) (j := 0) (m := L) (k := k) (by omega) (by rw [Nat.zero_add]; exact hall k hk)
      obtain ⟨c, hc1, hc2⟩ := hin k hk
      rw [h1, Nat.zero_add, hc1, List.getElem?_take, if_pos hk, List.getElem?_drop, hc2]
    · rw [List.getElem?_eq_none (by rw [seg_len (by omega)]; omega), List.getElem?_eq_none (by simp; omega)]
  -- what the data themselves lay
  have hd : wdiff (wadd f a) n = (a : Int) - t := by
    have e := wdiff_near f (a := a) (b := t) (by omega) (by omega)
    rw [← h.nx] at e; exact e
  have hlen : ((B.drop a).take size).length = min size (B.length - a) := by simp
  have hlead : a ≤ t → t < min (a + size) B.length → min (a + size) B.length ≤ t + L ∧ (runsT n W L 2048).length ≤ 8 := fun hat hlt => by
    have hcov : ∀ i, i < min (a + size) B.length - t → isS W i = true := fun i hi => by
      have g := winS_get n ps (wadd f a) ((B.drop a).take size) i (by omega)
      rw [hW, hd, if_pos (by rw [hlen]; omega)] at g
      rw [isS_of g]
      cases getP n ps i with
      | some c => rfl
      | none =>
        rw [Option.none_or, List.getElem?_eq_getElem (by rw [hlen]; omega)]
        rfl
    have h1 : min (a + size) B.length - t ≤ L := by
      rcases Nat.lt_or_ge L (min (a + size) B.length - t) with h | h
      · have := hcov L h; rw [hno] at this; cases this
      · exact h
    refine ⟨by omega, ?_⟩
    have hc : ∀ i, L ≤ i → at_ W i = at_ (layP n win0 ps) i := fun i hi => by
      rcases Nat.lt_or_ge i 2048 with h2 | h2
      · rw [← hW, winS_get _ _ _ _ _ h2, win_get n ps i h2, hd, if_neg (by rw [hlen]; omega), Option.or_none]
      · simp only [at_, List.getD, List.getElem?_eq_none (show W.length ≤ i by omega), List.getElem?_eq_none (show (layP n win0 ps).length ≤ i by rw [layP_len, win0_len]; omega)]
    rw [runsT_congr hc]
    refine Nat.le_trans (runsT_fewer n _ L 2048) ?_
    have r := runs_pieces n (layP n win0 ps) (by rw [layP_len, win0_len]) 0 ps [] 0 (mayB_go h.may) (Nat.le_refl _) (by omega) (fun i _ h2 => win_get n ps i h2) rfl
    rw [r, List.nil_append]
    exact (mayB_in h.may).2.1
  unfold reaS
  rw [hW, hLe]
  by_cases h8 : 8 < (runsT n W L 2048).length
  · rw [if_pos h8]
    refine ⟨t, Nat.le_refl _, h, by simp, fun hat => ?_⟩
    rcases Nat.lt_or_ge t (min (a + size) B.length) with hlt | hge
    · have := (hlead hat hlt).2; omega
    · omega
  · rw [if_neg h8]
    have hruns := runsT_runs (nx := n) lW (2048 - L) L rfl hL
    have hmg := hruns.may lW (Nat.le_refl L) hno
    rw [show (L : Int) - L = 0 by omega] at hmg
    refine ⟨t + L, by omega, ⟨htL, ?_, ?_, fun i c hc => ?_⟩, ?_, fun hat => ?_⟩
    · show wadd n L = wadd f ((t + L : Nat) : Int)
      rw [h.nx, wadd_wadd]; congr 1
    · simp only [mayB, within_wadd, hmg, Bool.true_and, Bool.and_true, decide_eq_true_eq]; omega
    · dsimp only at hc
      rcases Nat.lt_or_ge (L + i) 2048 with hi | hi
      · rw [hruns.get lW (Nat.le_refl L) i (by omega) hi] at hc
        rw [Nat.add_assoc]
        exact hwin (L + i) c hi hc
      · rw [hruns.out lW (Nat.le_refl L) i hi] at hc; cases hc
    · show seg W 0 L = _
      rw [hseg]; congr 1; omega
    · rcases Nat.lt_or_ge t (min (a + size) B.length) with hlt | hge
      · have := (hlead hat hlt).1; omega
      · omega
end
end Go.Proofs.Ythkjiihphdpagaa

/- Numbers that go round, one beside the other; data that come in their order: plain law. Conditions are said at each. -/
namespace Go.Proofs.Ythkjiihphdpagaa
open Go.RowKit
set_option linter.unusedVariables false
set_option linter.unusedSimpArgs false
set_option maxRecDepth 100000
theorem wadd_two (a i j : Int) : wadd (wadd a i) j = wadd a (i + j) := by unfold wadd; omega
theorem wadd_zero {a : Int} (h : 0 ≤ a ∧ a ≤ 4294967295) : wadd a 0 = a := by unfold wadd; omega
theorem wdiff_two (a : Int) {i j : Int} (h : -2147483648 ≤ i - j ∧ i - j < 2147483648) : wdiff (wadd a i) (wadd a j) = i - j := by unfold wdiff wadd; omega
theorem woff_wadd (a : Int) {i j : Int} (h : 0 ≤ i - j ∧ i - j < 4294967296) : woff (wadd a i) (wadd a j) = i - j := by unfold woff wadd; omega
theorem wdiff_eq (a : Int) : wdiff a a = 0 := by unfold wdiff; omega
theorem woff_self (a : Int) : woff a a = 0 := by unfold woff; omega
theorem reaS_none (n s : Int) (hn : 0 ≤ n ∧ n ≤ 4294967295) : reaS n [] s [] = (n, [], []) := by
  have := reaS_of (n := n) (ps := []) (s := s) (xs := []) [] [] (by simp) (by simp [mayGo]) (fun i hi => by
    rw [winS_get _ _ _ _ _ hi]
    simp [getP])
  rw [this, if_neg (by simp)]
  simp only [List.length_nil]
  rw [show ((0 : Nat) : Int) = 0 from rfl, wadd_zero hn]
end Go.Proofs.Ythkjiihphdpagaa

/- A connection from its first segment to its end, step by step: plain law. Conditions are said at each. -/
namespace Go.Proofs.Ythkjiihphdpagaa
open Go.RowKit
set_option linter.unusedVariables false
set_option linter.unusedSimpArgs false
set_option maxRecDepth 100000
set_option maxHeartbeats 1000000
theorem waddW (a i : Int) : 0 ≤ wadd a i ∧ wadd a i ≤ 4294967295 := by have := wadd_bd a i; omega
theorem fl_16_1 : flN 16 1 = true := by decide +kernel
theorem fl_16_2 : flN 16 2 = true := by decide +kernel
theorem fl_16_4 : flN 16 4 = true := by decide +kernel
theorem fl_16_16 : flN 16 16 = false := by decide +kernel
theorem fl_17_1 : flN 17 1 = false := by decide +kernel
theorem fl_17_2 : flN 17 2 = true := by decide +kernel
theorem fl_17_4 : flN 17 4 = true := by decide +kernel
theorem fl_17_16 : flN 17 16 = false := by decide +kernel
theorem wdiff_d (a i j : Int) (h : (decide (-2147483648 ≤ i - j) && decide (i - j < 2147483648)) = true) : wdiff (wadd a i) (wadd a j) = i - j := by
  rw [Bool.and_eq_true, decide_eq_true_eq, decide_eq_true_eq] at h
  exact wdiff_two a h
theorem woff_d (a i j : Int) (h : (decide (0 ≤ i - j) && decide (i - j < 4294967296)) = true) : woff (wadd a i) (wadd a j) = i - j := by
  rw [Bool.and_eq_true, decide_eq_true_eq, decide_eq_true_eq] at h
  exact woff_wadd a h
theorem reaS_n (R : Int) (i s : Int) : reaS (wadd R i) [] s [] = (wadd R i, [], []) := reaS_none _ _ (waddW R i)
theorem est (A R w0 w : Int) : (⟨1, 2, 3, 4, 1, wadd A 0, wadd A 1, w0, [], wadd R 1, [], false, tmNew 3⟩ : Cn).takes ⟨3, 4, wadd R 1, wadd A 1, 16, w, []⟩ = ⟨⟨1, 2, 3, 4, 2, wadd A 1, wadd A 1, w, [], wadd R 1, [], false, tm0⟩, [], []⟩ := by
  simp [Cn.takes, Stp.take, Cn.start, Cn.accepts, Stp.ack, Cn.ackC, Stp.more, Stp.data, Cn.hears, Stp.dataIn, Stp.dataFin, Stp.ackLen, Sg.len, Stp.pumpT, Cn.talks, Stp.pump, pumpGo, Stp.pump2, Stp.pump3, Stp.late, Cn.lateB, Cn.sent, Cn.len, Stp.acks, Stp.seg, Cn.shut, Stp.shut, finOut, wdiff_d, woff_d, wdiff_eq, woff_self, wadd_two, reaS_n, fl_16_1, fl_16_2, fl_16_4, fl_16_16, fl_17_1, fl_17_2, fl_17_4, fl_17_16, tm0, tmNew, Cn.closes, Cn.pumpN]
theorem sgB_w2 (A R i n fl w : Int) (h1 : 0 ≤ fl ∧ fl ≤ 63) (h2 : 0 ≤ w ∧ w ≤ 65535) : sgB ⟨3, 4, wadd R i, wadd A n, fl, w, []⟩ = true := by
  have a := waddW R i
  have b := waddW A n
  simp only [sgB, within, Bool.and_eq_true, decide_eq_true_eq]
  exact ⟨by omega, by omega, a, b, h1, h2, by simp⟩
theorem flN_2_2 : flN 2 2 = false := by decide +kernel
theorem flN_2_20 : flN 2 20 = true := by decide +kernel
theorem openE {iss irs w : Int} (h1 : 0 ≤ iss ∧ iss ≤ 4294967295) (h2 : 0 ≤ irs ∧ irs ≤ 4294967295) (h3 : 0 ≤ w ∧ w ≤ 65535) : openB 1 2 iss ⟨3, 4, irs, 0, 2, w, []⟩ = true := by
  unfold openB sgB within
  simp [h1, h2, h3, flN_2_2, flN_2_20]
end Go.Proofs.Ythkjiihphdpagaa

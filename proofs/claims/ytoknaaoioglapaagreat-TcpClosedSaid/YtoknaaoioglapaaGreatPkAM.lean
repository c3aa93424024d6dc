/- Contracts and plain laws, one behind the other: AhTcpO, AhTcpQ, TcpL3, AhTcpZ, Arg16, AhTcpFit, AhTcpR, AhTcpT. Conditions are said at each. -/
import Derived.Test.YtoknaaoioglapaaGreatAhTcpK
import Derived.Test.YtoknaaoioglapaaGreatPkAG
import Derived.Test.YtoknaaoioglapaaGreatPkAI
import Derived.Test.YtoknaaoioglapaaGreatPkAF
import Derived.Test.YtoknaaoioglapaaGreatAhRef
/- A connection is opened: on data. No condition but lengths. -/
namespace Go.Proofs.YtoknaaoioglapaaGreat
open Go.RowKit
set_option linter.unusedVariables false
set_option linter.unusedSimpArgs false
set_option maxRecDepth 100000
set_option maxHeartbeats 4000000
theorem fl_22 : ∀ n : Fin 64, (bits .and .i64 ((n.val : Nat) : Int) 22 == 2) = (!(bits .and .i64 ((n.val : Nat) : Int) 2 == 0) && (bits .and .i64 ((n.val : Nat) : Int) 20 == 0)) := by decide +kernel
theorem fl_open {fl : Int} (h : 0 ≤ fl ∧ fl ≤ 63) : (bits .and .i64 fl 22 == 2) = (!flN fl 2 && flN fl 20) := by
  have := fl_22 ⟨fl.toNat, by omega⟩
  rw [show ((fl.toNat : Nat) : Int) = fl by omega] at this
  exact this
theorem sgB_fl {m : Sg} (h : sgB m = true) : 0 ≤ m.fl ∧ m.fl ≤ 63 := (sgB_t h).2.2.2.2.1
theorem Ren.fzS {L I F : Prs} {h : Hp} {b r d d' : Nat} {e : TypeId} {m : Sg} (h0 : F.has b r = true) (hb : h b = .live ⟨7, e, [sgG d m]⟩) (h1 : I.has d d' = true) : Ren (qOf L I F) h (.sl b 0 1) (.glist r 7 ([m].map (sgG d'))) := by
  obtain ⟨x, y, z⟩ := segs_gg (L := L) (I := I) (F := F) (h := h) h1 [m]
  exact .frzg _ _ _ _ _ _ ((Prs.has_iff F b r).1 h0) hb x y z
theorem sendO_l (c : Cn) (seq fl : Int) : ACallL Tryz.prog 84 [.ptr 1 0 0, .val (.int .i64 seq), .val (.int .i64 fl), .val (.slice none 0 0)] [.perm, spO (spL (.val (.slice none 0 0)) (.val (.slice none 0 0)) (.val (.slice none 0 0)) (.val (.slice none 0 0)) c)]
    (.tup []) [.perm, spO (spL (.val (.slice none 0 0)) (.val (.slice none 0 0)) (.glist 2 7 ([(⟨c.port, c.pp, seq, c.inx, fl, 2048, []⟩ : Sg)].map (sgG 3))) (.val (.slice none 0 0)) c), .uniq, .uniq] := by
  have cC := clone_l [] (by decide)
  dsimp only [spL]
  refine ACallL.of_ev mixed Tryz.func84 rfl (fun a w => Tryz.call84 a w) (congrArg Array.toList Tryz.results84) Tryz.ntmps84 fun B hB => ?_
  ((conv => whnf); (repeat' ((first | (with_reducible first | refine qif_n ?_ | refine qif_t ‹_› ?_ | refine qif_f ‹_› ?_) | ((with_reducible refine qif_t ?_ ?_); focus decide) | ((with_reducible refine qif_f ?_ ?_); focus decide) | (with_reducible refine And.intro (orderOk_i ?ho) ?_; (case ho => kernel_rfl)) | (with_reducible first | refine qif_i (fun _ => ?_) (fun _ => ?_) | refine frcVs_i ?_ | refine frcRs_i ?_)) <;> (conv => whnf))))
  ((with_reducible refine qCall.fresh (fun r => gL r []) (cC) [(0, 0)] [] ?hk ?_); (case hk => rfl); (conv => whnf); (repeat (refine And.intro ?_ ?_; exact sideT; (conv => whnf))); (fail_if_success (with_reducible first | refine And.intro (eqv_i ?_) ?_ | refine And.intro (ren_i ?_) ?_)))
  ((conv => whnf); (repeat' ((first | (with_reducible first | refine qif_n ?_ | refine qif_t ‹_› ?_ | refine qif_f ‹_› ?_) | ((with_reducible refine qif_t ?_ ?_); focus decide) | ((with_reducible refine qif_f ?_ ?_); focus decide) | (with_reducible refine And.intro (orderOk_i ?ho) ?_; (case ho => kernel_rfl)) | (with_reducible first | refine qif_i (fun _ => ?_) (fun _ => ?_) | refine frcVs_i ?_ | refine frcRs_i ?_)) <;> (conv => whnf))))
  (refine qConv.of hB [(1, 1)] [(0, 0), (2, 3)] [(4, 2)] (by rfl) ?_; focus ((conv => whnf); (repeat (refine And.intro ?_ ?_; rotate_left; (conv => whnf))); exact trivial; all_goals (try exact andT)))
  all_goals (try (refine RowsRen.one ?_; (repeat (refine Cells.cons ?_ ?_; focus (first | exact .val _ | exact Ren.fzS rfl rfl rfl | fail))); exact Cells.nil))
theorem doneO_l (c : Cn) (l : List Sg) : ACallL Tryz.prog 68 [.ptr 1 0 0] [.perm, spO (spL (.val (.slice none 0 0)) (.val (.slice none 0 0)) (.glist 2 7 (l.map (sgG 3))) (.val (.slice none 0 0)) c), .perm, .perm]
    (.tup [.agg (cnL (.val (.slice none 0 0)) (.val (.slice none 0 0)) c), .glist 2 7 (l.map (sgG 3)), .val (.int .i64 0)]) [.perm, spO (spL (.val (.slice none 0 0)) (.val (.slice none 0 0)) (.glist 2 7 (l.map (sgG 3))) (.val (.slice none 0 0)) c), .perm, .perm] := by
  dsimp only [spL, cnL]
  refine ACallL.of_ev mixed Tryz.func68 rfl (fun a w => Tryz.call68 a w) (congrArg Array.toList Tryz.results68) Tryz.ntmps68 fun B hB => ?_
  ((conv => whnf); (repeat' ((first | (with_reducible first | refine qif_n ?_ | refine qif_t ‹_› ?_ | refine qif_f ‹_› ?_) | ((with_reducible refine qif_t ?_ ?_); focus decide) | ((with_reducible refine qif_f ?_ ?_); focus decide) | (with_reducible refine And.intro (orderOk_i ?ho) ?_; (case ho => kernel_rfl)) | (with_reducible first | refine qif_i (fun _ => ?_) (fun _ => ?_) | refine frcVs_i ?_ | refine frcRs_i ?_)) <;> (conv => whnf))))
  (refine qConv.of hB [(1, 1)] [(0, 0), (2, 2), (3, 3)] [] (by rfl) ?_; focus ((conv => whnf); (repeat (refine And.intro ?_ ?_; rotate_left; (conv => whnf))); exact trivial; all_goals (try exact andT)))
  all_goals (try (first | exact segs_gg rfl _ | (refine RowsRen.one ?_; (repeat (refine Cells.cons ?_ ?_; focus (first | exact .val _ | exact Ren.sgs rfl rfl _ | fail))); exact Cells.nil)))
theorem tcpOpen_no (link ip iss : Int) (m : Sg) (h : openB link ip iss m = false) : ACallL Tryz.prog 42 [.val (.int .i64 link), .val (.int .i64 ip), .val (.int .i64 iss), .agg (sgR 0 m)] [.perm] (stNo 1) [.perm] := by
  have pz := pl_bytes m.data
  have cS := segMay_l m
  have hx : (decide (link < 0) || (decide (1099511627776 < link) || (!within ip 4294967295 || (!within iss 4294967295 || (!sgB m || (bits .and .i64 m.fl 22 != 2)))))) = true := by
    unfold openB at h
    by_cases hs : sgB m = true
    · rw [← fl_open (sgB_fl hs)] at h
      cases h1 : within ip 4294967295 <;> cases h2 : within iss 4294967295 <;> rw [h1, h2] at h <;> simp [hs] at h ⊢ <;> (by_cases h3 : link < 0 <;> by_cases h4 : 1099511627776 < link <;> simp [h3, h4] at h ⊢)
      have : within link 1099511627776 = true := by simp only [within, decide_eq_true_eq]; omega
      simpa [this] using h
    · have hs : sgB m = false := by simpa using hs
      simp [hs]
  obtain ⟨bs, hbs⟩ : ∃ b, sgB m = b := ⟨_, rfl⟩
  rw [hbs] at cS hx
  clear h hbs
  dsimp only [sgR, sgL] at cS ⊢
  refine ACallL.of_ev mixed Tryz.func42 rfl (fun a w => Tryz.call42 a w) (congrArg Array.toList Tryz.results42) Tryz.ntmps42 fun B hB => ?_
  ((conv => whnf); (repeat' ((first | (with_reducible first | refine qif_n ?_ | refine qif_t ‹_› ?_ | refine qif_f ‹_› ?_) | ((with_reducible refine qif_t ?_ ?_); focus decide) | ((with_reducible refine qif_f ?_ ?_); focus decide) | (with_reducible refine And.intro (orderOk_i ?ho) ?_; (case ho => kernel_rfl)) | (with_reducible first | refine qif_i (fun _ => ?_) (fun _ => ?_) | refine frcVs_i ?_ | refine frcRs_i ?_) | ((with_reducible refine qCall.pure (segIP_l _) ?_ ?_ ?_ ?_); rotate_left 4; exact trivial; exact plT; exact plT) | ((with_reducible refine qCall.pure (spanIs_l _) ?_ ?_ ?_ ?_); rotate_left 4; exact trivial; exact plT; exact plT) | ((with_reducible refine qCall.pure (cS) ?_ ?_ ?_ ?_); rotate_left 4; exact trivial; exact plT; exact plT)) <;> (conv => whnf))))
  all_goals first | ((refine qConv.of hB [] [(0, 0)] [] (by rfl) ?_; focus ((conv => whnf); (repeat (refine And.intro ?_ ?_; rotate_left; (conv => whnf))); exact trivial; all_goals (try exact andT)))) | (exfalso; simp_all; done)
theorem tcpOpen_l (link ip iss : Int) (m : Sg) (h : openB link ip iss m = true) : ACallL Tryz.prog 42 [.val (.int .i64 link), .val (.int .i64 ip), .val (.int .i64 iss), .agg (sgR 0 m)] [.perm]
    (.tup [.agg (cnL (.val (.slice none 0 0)) (.val (.slice none 0 0)) (opens link ip iss m).c), .glist 1 7 ((opens link ip iss m).out.map (sgG 2)), .val (.int .i64 0)]) [.perm, .uniq, .uniq] := by
  have pz := pl_bytes m.data
  have cS := segMay_l m
  unfold openB at h
  simp only [Bool.and_eq_true] at h
  obtain ⟨h1, h2, h3, h4, h5⟩ := h
  have h6 : (bits .and .i64 m.fl 22 != 2) = false := by
    have := fl_open (sgB_fl h4)
    rw [h5.2, Bool.and_true, h5.1] at this
    simpa using this
  have h7 : decide (link < 0) = false := by simp only [within, decide_eq_true_eq] at h1; simp; omega
  have h8 : decide (1099511627776 < link) = false := by simp only [within, decide_eq_true_eq] at h1; simp; omega
  rw [h4] at cS
  unfold opens Stp.seg Cn.start
  obtain ⟨c, hc⟩ : ∃ c : Cn, c = ⟨link, ip, m.sp, m.dp, 1, iss, wadd iss 1, m.win, [], wadd m.seq 1, [], false, tmNew 3⟩ := ⟨_, rfl⟩
  have cW := sendO_l c iss 18
  have cD := doneO_l c [⟨c.port, c.pp, iss, c.inx, 18, 2048, []⟩]
  subst hc
  dsimp only [sgR, sgL, spL, cnL, tmNew] at cS cW cD ⊢
  refine ACallL.of_ev mixed Tryz.func42 rfl (fun a w => Tryz.call42 a w) (congrArg Array.toList Tryz.results42) Tryz.ntmps42 fun B hB => ?_
  ((conv => whnf); (repeat' ((first | (with_reducible first | refine qif_n ?_ | refine qif_t ‹_› ?_ | refine qif_f ‹_› ?_) | ((with_reducible refine qif_t ?_ ?_); focus decide) | ((with_reducible refine qif_f ?_ ?_); focus decide) | (with_reducible refine And.intro (orderOk_i ?ho) ?_; (case ho => kernel_rfl)) | (with_reducible first | refine qif_i (fun _ => ?_) (fun _ => ?_) | refine frcVs_i ?_ | refine frcRs_i ?_) | ((with_reducible refine qCall.pure (segIP_l _) ?_ ?_ ?_ ?_); rotate_left 4; exact trivial; exact plT; exact plT) | ((with_reducible refine qCall.pure (spanIs_l _) ?_ ?_ ?_ ?_); rotate_left 4; exact trivial; exact plT; exact plT) | ((with_reducible refine qCall.pure (cS) ?_ ?_ ?_ ?_); rotate_left 4; exact trivial; exact plT; exact plT) | ((with_reducible refine qCall.pure (spanAdd_l _ _) ?_ ?_ ?_ ?_); rotate_left 4; exact trivial; exact plT; exact plT) | ((with_reducible refine qCall.pure (tnew_l _) ?_ ?_ ?_ ?_); rotate_left 4; exact trivial; exact plT; exact plT)) <;> (conv => whnf))))
  ((with_reducible refine qCall.of (cW) [(1, 3)] [(0, 0)] [] [(2, 4), (3, 5)] [(3, spO (spL (.val (.slice none 0 0)) (.val (.slice none 0 0)) (.glist 4 7 ([(⟨m.dp, m.sp, iss, wadd m.seq 1, 18, 2048, []⟩ : Sg)].map (sgG 5))) (.val (.slice none 0 0)) (⟨link, ip, m.sp, m.dp, 1, iss, wadd iss 1, m.win, [], wadd m.seq 1, [], false, tmNew 3⟩ : Cn))), (4, .uniq), (5, .uniq)] (.tup []) ?hk ?_); (case hk => rfl); (conv => whnf); (repeat (refine And.intro ?_ ?_; exact sideT; (conv => whnf))); (fail_if_success (with_reducible first | refine And.intro (eqv_i ?_) ?_ | refine And.intro (ren_i ?_) ?_)))
  ((conv => whnf); (repeat' ((first | (with_reducible first | refine qif_n ?_ | refine qif_t ‹_› ?_ | refine qif_f ‹_› ?_) | ((with_reducible refine qif_t ?_ ?_); focus decide) | ((with_reducible refine qif_f ?_ ?_); focus decide) | (with_reducible refine And.intro (orderOk_i ?ho) ?_; (case ho => kernel_rfl)) | (with_reducible first | refine qif_i (fun _ => ?_) (fun _ => ?_) | refine frcVs_i ?_ | refine frcRs_i ?_)) <;> (conv => whnf))))
  ((with_reducible refine qCall.of (cD) [(1, 3)] [(0, 0), (2, 4), (3, 5)] [] [] [(3, spO (spL (.val (.slice none 0 0)) (.val (.slice none 0 0)) (.glist 4 7 ([(⟨m.dp, m.sp, iss, wadd m.seq 1, 18, 2048, []⟩ : Sg)].map (sgG 5))) (.val (.slice none 0 0)) (⟨link, ip, m.sp, m.dp, 1, iss, wadd iss 1, m.win, [], wadd m.seq 1, [], false, tmNew 3⟩ : Cn)))] (.tup [.agg (cnL (.val (.slice none 0 0)) (.val (.slice none 0 0)) (⟨link, ip, m.sp, m.dp, 1, iss, wadd iss 1, m.win, [], wadd m.seq 1, [], false, tmNew 3⟩ : Cn)), .glist 4 7 ([(⟨m.dp, m.sp, iss, wadd m.seq 1, 18, 2048, []⟩ : Sg)].map (sgG 5)), .val (.int .i64 0)]) ?hk ?_); (case hk => rfl); (conv => whnf); (repeat (refine And.intro ?_ ?_; exact sideT; (conv => whnf))); (fail_if_success (with_reducible first | refine And.intro (eqv_i ?_) ?_ | refine And.intro (ren_i ?_) ?_)))
  ((conv => whnf); (repeat' ((first | (with_reducible first | refine qif_n ?_ | refine qif_t ‹_› ?_ | refine qif_f ‹_› ?_) | ((with_reducible refine qif_t ?_ ?_); focus decide) | ((with_reducible refine qif_f ?_ ?_); focus decide) | (with_reducible refine And.intro (orderOk_i ?ho) ?_; (case ho => kernel_rfl)) | (with_reducible first | refine qif_i (fun _ => ?_) (fun _ => ?_) | refine frcVs_i ?_ | refine frcRs_i ?_)) <;> (conv => whnf))))
  (refine qConv.of hB [] [(0, 0), (4, 1), (5, 2)] [] (by rfl) ?_; focus ((conv => whnf); (repeat (refine And.intro ?_ ?_; rotate_left; (conv => whnf))); exact trivial; all_goals (try exact andT)))
  all_goals (try (first | rfl | exact segs_gg rfl _))
end Go.Proofs.YtoknaaoioglapaaGreat

/- The statement wakes; how much a script weighs; what fits: on data. Conditions: lengths. -/
namespace Go.Proofs.YtoknaaoioglapaaGreat
open Go.RowKit
set_option linter.unusedVariables false
set_option linter.unusedSimpArgs false
set_option maxRecDepth 100000
set_option maxHeartbeats 4000000
theorem dt_AhTcpQ_ROWQ {p : Prop} (h : p := by first | ((first | rfl | (refine RowsRen.one ?_; (repeat (refine Cells.cons ?_ ?_; focus (first | exact .val _ | exact Ren.gg rfl _ | exact Ren.ll rfl _ | exact Ren.g2 rfl _ | exact Ren.vnil _ _ | exact Ren.vgnil _ _ | exact Ren.sgs rfl rfl _ | exact Ren.pgl rfl rfl _ | fail))); exact Cells.nil) | exact segs_gg rfl _ | exact parts_gg rfl _ | exact bytes_cells _); done) | fail) : p := h
theorem tcpOpenA_l (link ip iss : Int) (m : Sg) (h : openB link ip iss m = true) : ACallL Tryz.prog 42 [.val (.int .i64 link), .val (.int .i64 ip), .val (.int .i64 iss), .agg (sgR 0 m)] [.perm] (stA (opens link ip iss m)) stH := by
  have cO := tcpOpen_l link ip iss m h
  have e1 : (opens link ip iss m).c.out = [] := rfl
  have e2 : (opens link ip iss m).c.parts = [] := rfl
  obtain ⟨y, hy⟩ : ∃ r, opens link ip iss m = r := ⟨_, rfl⟩
  rw [hy] at cO e1 e2 ⊢
  have pz := pl_bytes m.data
  unfold stA
  dsimp only [sgR, sgL, cnL, cnG] at cO ⊢
  rw [e1, e2]
  refine ACallL.of_q (fun a w => Tryz.call42 a w) fun B hB => ?_
  ((with_reducible refine qCall.of (cO) [] [(0, 0)] [] [(1, 1), (2, 2)] [(1, .uniq), (2, .uniq)] (.tup [.agg (cnL (.val (.slice none 0 0)) (.val (.slice none 0 0)) y.c), .glist 1 7 (y.out.map (sgG 2)), .val (.int .i64 0)]) ?hk ?_); (case hk => rfl); (conv => whnf); (repeat (refine And.intro ?_ ?_; exact sideT; (conv => whnf))); (fail_if_success (with_reducible first | refine And.intro (eqv_i ?_) ?_ | refine And.intro (ren_i ?_) ?_)))
  (refine qConv.of hB [] [(0, 0), (1, 4), (2, 5)] [] (by rfl) ?_; focus ((conv => whnf); (repeat (refine And.intro ?_ ?_; rotate_left; (conv => whnf))); exact trivial; all_goals (try exact andT)))
  all_goals (try exact dt_AhTcpQ_ROWQ)
theorem num16_l (n : Int) : ACallL Tryz.prog 16 [.val (.int .i64 n)] [.perm] (.val (.int .i64 n)) [.perm] := by
  refine ACallL.of_ev mixed Tryz.func16 rfl (fun a w => Tryz.call16 a w) (congrArg Array.toList Tryz.results16) Tryz.ntmps16 fun B hB => ?_
  ((conv => whnf); (repeat' ((first | (with_reducible first | refine qif_n ?_ | refine qif_t ‹_› ?_ | refine qif_f ‹_› ?_) | ((with_reducible refine qif_t ?_ ?_); focus decide) | ((with_reducible refine qif_f ?_ ?_); focus decide) | (with_reducible refine And.intro (orderOk_i ?ho) ?_; (case ho => kernel_rfl)) | (with_reducible first | refine qif_i (fun _ => ?_) (fun _ => ?_) | refine frcVs_i ?_ | refine frcRs_i ?_)) <;> (conv => whnf))))
  all_goals (refine qConv.of hB [] [(0, 0)] [] (by rfl) ?_; focus ((conv => whnf); (repeat (refine And.intro ?_ ?_; rotate_left; (conv => whnf))); exact trivial; all_goals (try exact andT)))
end Go.Proofs.YtoknaaoioglapaaGreat

/- What a step sends and tells may be; the connection's names stay: plain law. No condition but that it may be one. -/
namespace Go.Proofs.YtoknaaoioglapaaGreat
open Go.RowKit
set_option linter.unusedVariables false
set_option linter.unusedSimpArgs false
structure SegI (c : Cn) (m : Sg) : Prop where
  ok : sgB m = true
  sp : m.sp = c.port
  dp : m.dp = c.pp
  len : m.data.length ≤ 536
structure StI (c : Cn) (n : Nat) (y : Stp) : Prop where
  port : 0 ≤ c.port ∧ c.port ≤ 65535
  pp : 0 ≤ c.pp ∧ c.pp ≤ 65535
  e1 : y.c.link = c.link
  e2 : y.c.ip = c.ip
  e3 : y.c.pp = c.pp
  e4 : y.c.port = c.port
  inx : 0 ≤ y.c.inx ∧ y.c.inx ≤ 4294967295
  segs : ∀ m ∈ y.out, SegI c m
  cnt : y.out.length ≤ n
  told : y.told.length ≤ 2048
theorem CnF.inx {c : Cn} (h : CnF c) : 0 ≤ c.inx ∧ c.inx ≤ 4294967295 := (mayB_in h.may).1
theorem StI.start {c : Cn} (h : CnF c) : StI c 0 c.start := ⟨h.port, h.pp, rfl, rfl, rfl, rfl, h.inx, fun m hm => (by cases hm), Nat.le_refl _, by simp [Cn.start]⟩
theorem StI.start' {c c' : Cn} (h : CnF c) (e1 : c'.link = c.link) (e2 : c'.ip = c.ip) (e3 : c'.pp = c.pp) (e4 : c'.port = c.port) (e5 : c'.inx = c.inx) : StI c 0 c'.start := ⟨h.port, h.pp, e1, e2, e3, e4, by show 0 ≤ c'.inx ∧ c'.inx ≤ 4294967295; rw [e5]; exact h.inx, fun m hm => (by cases hm), Nat.le_refl _, by simp [Cn.start]⟩
theorem StI.le {c : Cn} {n k : Nat} {y : Stp} (h : StI c n y) (hk : n ≤ k) : StI c k y := ⟨h.port, h.pp, h.e1, h.e2, h.e3, h.e4, h.inx, h.segs, by have := h.cnt; omega, h.told⟩
theorem StI.put {c : Cn} {n : Nat} {y : Stp} (h : StI c n y) (c' : Cn) (e1 : c'.link = y.c.link) (e2 : c'.ip = y.c.ip) (e3 : c'.pp = y.c.pp) (e4 : c'.port = y.c.port) (e5 : 0 ≤ c'.inx ∧ c'.inx ≤ 4294967295) : StI c n { y with c := c' } :=
  ⟨h.port, h.pp, e1.trans h.e1, e2.trans h.e2, e3.trans h.e3, e4.trans h.e4, e5, h.segs, h.cnt, h.told⟩
theorem StI.more {c c' : Cn} {n : Nat} {y : Stp} (h : StI c n y) (m : Sg) (hm : SegI c m) (e1 : c'.link = y.c.link) (e2 : c'.ip = y.c.ip) (e3 : c'.pp = y.c.pp) (e4 : c'.port = y.c.port) (e5 : c'.inx = y.c.inx) : StI c (n + 1) { c := c', out := y.out ++ [m], told := y.told } :=
  ⟨h.port, h.pp, e1.trans h.e1, e2.trans h.e2, e3.trans h.e3, e4.trans h.e4, by show 0 ≤ c'.inx ∧ c'.inx ≤ 4294967295; rw [e5]; exact h.inx, fun x hx => by
    rcases List.mem_append.1 hx with hx | hx
    · exact h.segs x hx
    · rw [List.mem_singleton.1 hx]; exact hm, by have := h.cnt; simp; omega, h.told⟩
theorem StI.segI {c : Cn} {n : Nat} {y : Stp} (h : StI c n y) {seq ack fl win : Int} {data : List Int} (hq : 0 ≤ seq ∧ seq ≤ 4294967295) (ha : 0 ≤ ack ∧ ack ≤ 4294967295) (hf : 0 ≤ fl ∧ fl ≤ 63) (hw : 0 ≤ win ∧ win ≤ 65535) (hd : data.length ≤ 536) : SegI c ⟨y.c.port, y.c.pp, seq, ack, fl, win, data⟩ := by
  refine ⟨?_, h.e4, h.e3, hd⟩
  have := h.port
  have := h.pp
  simp only [sgB, within, Bool.and_eq_true, decide_eq_true_eq, h.e3, h.e4]
  refine ⟨by omega, by omega, by omega, by omega, by omega, by omega, by omega⟩
theorem StI.seg {c : Cn} {n : Nat} {y : Stp} (h : StI c n y) {seq fl : Int} {data : List Int} (hq : 0 ≤ seq ∧ seq ≤ 4294967295) (hf : 0 ≤ fl ∧ fl ≤ 63) (hd : data.length ≤ 536) : StI c (n + 1) (y.seg seq fl data) :=
  h.more _ (h.segI hq h.inx hf (by omega) hd) rfl rfl rfl rfl rfl
theorem StI.acks {c : Cn} {n : Nat} {y : Stp} (h : StI c n y) (hq : 0 ≤ y.c.nx ∧ y.c.nx ≤ 4294967295) : StI c (n + 1) y.acks := h.seg hq (by omega) (by simp)
theorem StI.shut {c : Cn} {n : Nat} {y : Stp} (h : StI c n y) : StI c n y.shut := h.put y.c.shut rfl rfl rfl rfl h.inx
theorem sgB_w {m : Sg} (h : sgB m = true) : (0 ≤ m.sp ∧ m.sp ≤ 65535) ∧ (0 ≤ m.dp ∧ m.dp ≤ 65535) ∧ (0 ≤ m.seq ∧ m.seq ≤ 4294967295) ∧ (0 ≤ m.ack ∧ m.ack ≤ 4294967295) ∧ (0 ≤ m.fl ∧ m.fl ≤ 63) ∧ (0 ≤ m.win ∧ m.win ≤ 65535) ∧ m.data.length ≤ 1460 := by
  simpa only [sgB, within, Bool.and_eq_true, decide_eq_true_eq] using h
theorem bif_p {α : Type} {p : α → Prop} {b : Bool} {x y : α} (h1 : b = true → p x) (h2 : b = false → p y) : p (bif b then x else y) := by cases b <;> simp [h1, h2]
theorem StI.ack {c : Cn} {n : Nat} {y : Stp} (h : StI c n y) {m : Sg} (hm : sgB m = true) (hq : 0 ≤ y.c.nx ∧ y.c.nx ≤ 4294967295) : StI c (n + 1) (y.ack m).1 := by
  obtain ⟨_, _, _, ha, _⟩ := sgB_w hm
  have hp : ∀ c' : Cn, c'.link = y.c.link → c'.ip = y.c.ip → c'.pp = y.c.pp → c'.port = y.c.port → c'.inx = y.c.inx → StI c (n + 1) ({ y with c := c' }) := fun c' a b d e f => (h.put c' a b d e (by rw [f]; exact h.inx)).le (by omega)
  unfold Stp.ack
  refine bif_p (p := fun r : Stp × Bool => StI c (n + 1) r.1) (fun _ => bif_p (p := fun r : Stp × Bool => StI c (n + 1) r.1) (fun _ => ?_) (fun _ => ?_)) (fun _ => bif_p (p := fun r : Stp × Bool => StI c (n + 1) r.1) (fun _ => ?_) (fun _ => bif_p (p := fun r : Stp × Bool => StI c (n + 1) r.1) (fun _ => ?_) (fun _ => bif_p (p := fun r : Stp × Bool => StI c (n + 1) r.1) (fun _ => bif_p (p := fun r : Stp × Bool => StI c (n + 1) r.1) (fun _ => ?_) (fun _ => bif_p (p := fun r : Stp × Bool => StI c (n + 1) r.1) (fun _ => ?_) (fun _ => bif_p (p := fun r : Stp × Bool => StI c (n + 1) r.1) (fun _ => ?_) (fun _ => ?_)))) (fun _ => ?_))))
  · exact hp _ rfl rfl rfl rfl rfl
  · exact h.more (c' := y.c) _ (h.segI ha (by omega) (by omega) (by omega) (by simp)) rfl rfl rfl rfl rfl
  · exact h.acks hq
  · exact hp _ rfl rfl rfl rfl rfl
  · exact hp _ rfl rfl rfl rfl rfl
  · exact hp _ rfl rfl rfl rfl rfl
  · exact hp _ rfl rfl rfl rfl rfl
  · exact hp _ rfl rfl rfl rfl rfl
  · exact hp _ rfl rfl rfl rfl rfl
theorem data_same (y : Stp) (m : Sg) : (y.data m).c.link = y.c.link ∧ (y.data m).c.ip = y.c.ip ∧ (y.data m).c.pp = y.c.pp ∧ (y.data m).c.port = y.c.port ∧ (y.data m).out = y.out ∧ (y.told.length ≤ 2048 → (y.data m).told.length ≤ 2048) := by
  unfold Stp.data
  refine bif_p (p := fun r : Stp => r.c.link = y.c.link ∧ r.c.ip = y.c.ip ∧ r.c.pp = y.c.pp ∧ r.c.port = y.c.port ∧ r.out = y.out ∧ (y.told.length ≤ 2048 → r.told.length ≤ 2048)) (fun _ => ?_) (fun _ => ⟨rfl, rfl, rfl, rfl, rfl, id⟩)
  have ht : (y.dataIn m).told.length ≤ 2048 := reaS_told _ _ _ _
  unfold Stp.dataFin
  have hp : ∀ r : Stp, r.c.link = y.c.link → r.c.ip = y.c.ip → r.c.pp = y.c.pp → r.c.port = y.c.port → r.out = y.out → r.told = (y.dataIn m).told → r.c.link = y.c.link ∧ r.c.ip = y.c.ip ∧ r.c.pp = y.c.pp ∧ r.c.port = y.c.port ∧ r.out = y.out ∧ (y.told.length ≤ 2048 → r.told.length ≤ 2048) :=
    fun r a b d e f g => ⟨a, b, d, e, f, fun _ => by rw [g]; exact ht⟩
  have h0 := hp (y.dataIn m) rfl rfl rfl rfl rfl rfl
  refine bif_p (p := fun r : Stp => r.c.link = y.c.link ∧ r.c.ip = y.c.ip ∧ r.c.pp = y.c.pp ∧ r.c.port = y.c.port ∧ r.out = y.out ∧ (y.told.length ≤ 2048 → r.told.length ≤ 2048)) (fun _ => h0) (fun _ => bif_p (p := fun r : Stp => r.c.link = y.c.link ∧ r.c.ip = y.c.ip ∧ r.c.pp = y.c.pp ∧ r.c.port = y.c.port ∧ r.out = y.out ∧ (y.told.length ≤ 2048 → r.told.length ≤ 2048)) (fun _ => bif_p (p := fun r : Stp => r.c.link = y.c.link ∧ r.c.ip = y.c.ip ∧ r.c.pp = y.c.pp ∧ r.c.port = y.c.port ∧ r.out = y.out ∧ (y.told.length ≤ 2048 → r.told.length ≤ 2048)) (fun _ => h0) (fun _ => bif_p (p := fun r : Stp => r.c.link = y.c.link ∧ r.c.ip = y.c.ip ∧ r.c.pp = y.c.pp ∧ r.c.port = y.c.port ∧ r.out = y.out ∧ (y.told.length ≤ 2048 → r.told.length ≤ 2048)) (fun _ => ?_) (fun _ => bif_p (p := fun r : Stp => r.c.link = y.c.link ∧ r.c.ip = y.c.ip ∧ r.c.pp = y.c.pp ∧ r.c.port = y.c.port ∧ r.out = y.out ∧ (y.told.length ≤ 2048 → r.told.length ≤ 2048)) (fun _ => ?_) (fun _ => ?_)))) (fun _ => h0))
  all_goals exact hp _ rfl rfl rfl rfl rfl rfl
theorem StI.data {c : Cn} {n : Nat} {y : Stp} (h : StI c n y) (m : Sg) (hI : CnI y.c) : StI c n (y.data m) := by
  obtain ⟨a, b, d, e, f, g⟩ := data_same y m
  exact ⟨h.port, h.pp, a.trans h.e1, b.trans h.e2, d.trans h.e3, e.trans h.e4, (data_I hI m).inx, by rw [f]; exact h.segs, by rw [f]; exact h.cnt, g h.told⟩
theorem StI.pump1 {c : Cn} {n : Nat} {y : Stp} (h : StI c n y) (hP : PumpOk y.c) : StI c (n + 1) y.pump1 := by
  have := pumpN_le hP
  exact h.more (c' := { y.c with nx := wadd y.c.nx y.c.pumpN }) _ (h.segI hP.nx h.inx (by omega) (by omega) (by simp; omega)) rfl rfl rfl rfl rfl
theorem StI.pumpGo {c : Cn} : ∀ (k : Nat) {n : Nat} {y : Stp}, StI c n y → PumpOk y.c → StI c (n + k) (pumpGo k y)
  | 0, n, y, h, _ => h
  | k + 1, n, y, h, hP => by
    rw [Go.Proofs.YtoknaaoioglapaaGreat.pumpGo]
    by_cases hn : y.c.pumpN ≤ 0
    · rw [if_pos hn]; exact h.le (by omega)
    · rw [if_neg hn]
      exact (StI.pumpGo k (h.pump1 hP) (pump1_ok hP (by omega))).le (by omega)
theorem StI.pump {c : Cn} {n : Nat} {y : Stp} (h : StI c n y) (hI : CnI y.c) (ht : y.c.talks = true) : StI c (n + y.c.out.length + 1) y.pump := by
  have hP := hI.pumpOk ht
  have h1 := h.pumpGo y.c.out.length hP
  obtain ⟨hP1, he⟩ := pumpGo_ok y.c.out.length hP
  unfold Stp.pump
  obtain ⟨z, hz⟩ : ∃ z, Go.Proofs.YtoknaaoioglapaaGreat.pumpGo y.c.out.length y = z := ⟨_, rfl⟩
  rw [hz] at h1 hP1 ⊢
  have h2 : StI c (n + y.c.out.length + 1) z.pump2 := by
    unfold Stp.pump2
    by_cases hc : z.c.closing = true ∧ z.c.sent = z.c.len
    · rw [if_pos hc]
      exact h1.more (c' := { z.c with nx := wadd z.c.nx 1, st := if z.c.st = 2 then 3 else 7 }) _ (h1.segI hP1.nx h1.inx (by omega) (by omega) (by simp)) rfl rfl rfl rfl rfl
    · rw [if_neg hc]; exact h1.le (by omega)
  unfold Stp.pump3
  split
  · exact h2.put _ rfl rfl rfl rfl h2.inx
  · exact h2
theorem StI.late {c : Cn} {n : Nat} {y : Stp} (h : StI c n y) : StI c n y.late := by
  unfold Stp.late
  exact bif_p (fun _ => h.put _ rfl rfl rfl rfl h.inx) (fun _ => h)
theorem StI.takeMore {c : Cn} {n : Nat} {y : Stp} (h : StI c n y) (m : Sg) (hI : CnI y.c) : StI c (n + 8194) (y.more m) := by
  have h1 := h.data m hI
  have hI1 := data_I hI m
  unfold Stp.more
  have h2 : StI c (n + 1) ((y.data m).ackLen m) := by
    unfold Stp.ackLen
    exact bif_p (fun _ => h1.acks hI1.nx) (fun _ => h1.le (by omega))
  have hI2 := ackLen_I hI1 m
  refine StI.late ?_
  unfold Stp.pumpT
  refine bif_p (fun ht => (h2.pump hI2 ht).le (by have := hI2.len; omega)) (fun _ => h2.le (by omega))
theorem take_S {c : Cn} (h : CnI c) {m : Sg} (hm : sgB m = true) : StI c 8200 (c.takes m) := by
  have h0 := StI.start h.toCnF
  have hq : 0 ≤ c.start.c.nx ∧ c.start.c.nx ≤ 4294967295 := h.nx
  unfold Cn.takes Stp.take
  refine bif_p (fun _ => h0.le (by omega)) (fun hs => bif_p (fun _ => bif_p (fun _ => bif_p (fun _ => bif_p (fun _ => h0.le (by omega)) (fun _ => bif_p (fun _ => ?_) (fun _ => (h0.ack hm hq).le (by omega)))) (fun _ => (h0.acks hq).le (by omega))) (fun _ => h0.shut.le (by omega))) (fun _ => bif_p (fun _ => bif_p (fun _ => ?_) (fun _ => (h0.acks hq).le (by omega))) (fun _ => h0.le (by omega))))
  · exact ((h0.ack hm hq).takeMore m (ack_I (x := c.start) h hm (by simpa using hs))).le (by omega)
  · have hz := (h0.acks hq).put { c with tm := tmNew 20 } rfl rfl rfl rfl h.inx
    exact hz.le (by omega)
theorem sendE_t {c : Cn} {xs : List Int} (he : c.sendE xs = 0) : c.talks = true ∧ c.closing = false ∧ ¬ (8192 - (c.out.length : Int) < (xs.length : Int)) := by
  unfold Cn.sendE at he
  cases h1 : c.closing <;> cases h2 : c.talks <;> rw [h1, h2] at he <;> simp at he ⊢
  cases h3 : decide (8192 - (c.out.length : Int) < (xs.length : Int)) with
  | true => rw [h3] at he; simp at he
  | false => simpa using h3
theorem out_I {c : Cn} (h : CnI c) {xs : List Int} (he : c.sendE xs = 0) : CnI { c with out := c.out ++ xs } ∧ ({ c with out := c.out ++ xs } : Cn).talks = true := by
  obtain ⟨ht, _, hl⟩ := sendE_t he
  have hst : c.st = 2 ∨ c.st = 5 := by simpa [Cn.talks] using ht
  have hlen := h.len
  refine ⟨⟨⟨h.link, h.ip, h.pp, h.port, h.st, h.una, h.nx, h.win, by simp; omega, h.may, h.tm⟩, ⟨fun e => ?_, fun e => ?_, fun e => ?_, fun e => ?_, fun _ => ?_⟩⟩, ht⟩
  · have e : c.st = 0 := e; omega
  · have e : c.st = 1 := e; omega
  · have e : c.st = 4 ∨ c.st = 8 := e; omega
  · have e : c.st = 3 ∨ c.st = 6 ∨ c.st = 7 := e; omega
  · obtain ⟨a, b⟩ := h.num.e hst
    exact ⟨a, by show c.sent ≤ ((c.out ++ xs).length : Int); simp; omega⟩
theorem send_I {c : Cn} (h : CnI c) {xs : List Int} (he : c.sendE xs = 0) : CnI (c.sends xs).c ∧ StI c 8200 (c.sends xs) := by
  obtain ⟨h1, h2⟩ := out_I h he
  have hI : CnI (({ c with out := c.out ++ xs } : Cn).start).c := h1
  have h3 := (StI.start' (c' := { c with out := c.out ++ xs }) h.toCnF rfl rfl rfl rfl rfl).pump hI h2
  exact ⟨pump_I hI h2, h3.le (by have := hI.len; omega)⟩
theorem closeE_t {c : Cn} (he : c.closeE = 0) : c.closing = false ∧ (c.talks || c.st == 1) = true := by
  unfold Cn.closeE at he
  cases h1 : c.closing <;> cases h2 : (c.talks || c.st == 1) <;> rw [h1, h2] at he <;> simp at he ⊢
theorem closing_I {c : Cn} (h : CnI c) (he : c.closeE = 0) : CnI { c with closing := true } := by
  obtain ⟨_, h2⟩ := closeE_t he
  have hst : (c.st = 2 ∨ c.st = 5) ∨ c.st = 1 := by simpa [Cn.talks] using h2
  refine ⟨⟨h.link, h.ip, h.pp, h.port, h.st, h.una, h.nx, h.win, h.len, h.may, h.tm⟩, ⟨h.num.z, h.num.a, fun e => ?_, fun e => ?_, h.num.e⟩⟩
  · have e : c.st = 4 ∨ c.st = 8 := e; omega
  · have e : c.st = 3 ∨ c.st = 6 ∨ c.st = 7 := e; omega
theorem close_I {c : Cn} (h : CnI c) (he : c.closeE = 0) : CnI c.closes.c ∧ StI c 8200 c.closes := by
  have h1 := closing_I h he
  have h3 := StI.start' (c' := { c with closing := true }) h.toCnF rfl rfl rfl rfl rfl
  unfold Cn.closes
  refine bif_p (p := fun r : Stp => CnI r.c ∧ StI c 8200 r) (fun ht => ⟨pump_I (x := ({ c with closing := true } : Cn).start) h1 ht, ?_⟩) (fun _ => ⟨h1, h3.le (by omega)⟩)
  exact (h3.pump (y := ({ c with closing := true } : Cn).start) h1 ht).le (by have : c.out.length ≤ 8192 := h.len; show 0 + c.out.length + 1 ≤ 8200; omega)
theorem abort_I {c : Cn} (h : CnI c) : CnI c.aborts.c ∧ StI c 8200 c.aborts := by
  have h0 := StI.start h.toCnF
  unfold Cn.aborts Stp.abort
  exact bif_p (p := fun r : Stp => CnI r.c ∧ StI c 8200 r) (fun _ => ⟨h.toCnF.shut, h0.shut.le (by omega)⟩) (fun _ => ⟨h.toCnF.shut, (h0.seg (seq := c.nx) (fl := 20) (data := []) h.nx (by omega) (by simp)).shut.le (by omega)⟩)
theorem tmBeat_ok {t : Tm} (h : tmB t = true) : tmB (tmBeat t) = true := by
  simp only [tmB, Bool.and_eq_true, decide_eq_true_eq, Bool.or_eq_true, beq_iff_eq] at h ⊢
  obtain ⟨⟨a1, a2, a3⟩, a4⟩ := h
  unfold tmBeat
  dsimp only
  by_cases ho : t.on = true
  · rw [if_pos ho]; exact ⟨⟨by omega, by omega, a3⟩, .inl ho⟩
  · rw [if_neg ho]; exact ⟨⟨a1, a2, a3⟩, a4⟩
theorem tmBack_ok {t : Tm} (h : tmB t = true) (ht : t.on = true) (h8 : t.tries ≠ 8) : tmB (tmBack t) = true := by
  simp only [tmB, Bool.and_eq_true, decide_eq_true_eq, Bool.or_eq_true, beq_iff_eq] at h ⊢
  unfold tmBack
  dsimp only
  exact ⟨by omega, .inl ht⟩
theorem again_I {c : Cn} (h : CnI c) (h0 : c.st ≠ 0) (h8 : c.st ≠ 8) : CnI c.start.again.c ∧ StI c 8200 c.start.again := by
  have s0 := StI.start h.toCnF
  have es : c.start.c = c := rfl
  have hlen := h.len
  unfold Stp.again
  rw [es]
  refine bif_p (p := fun r : Stp => CnI r.c ∧ StI c 8200 r) (fun _ => ⟨h, (s0.seg (seq := c.una) (fl := 18) (data := []) h.una (by omega) (by simp)).le (by omega)⟩) (fun h1 => bif_p (p := fun r : Stp => CnI r.c ∧ StI c 8200 r) (fun _ => ⟨h, (s0.seg (seq := c.una) (fl := 24) h.una (by omega) (by simp; omega)).le (by omega)⟩) (fun _ => bif_p (p := fun r : Stp => CnI r.c ∧ StI c 8200 r) (fun _ => ⟨h, (s0.seg (seq := c.una) (fl := 17) (data := []) h.una (by omega) (by simp)).le (by omega)⟩) (fun hs => bif_p (p := fun r : Stp => CnI r.c ∧ StI c 8200 r) (fun hl => ⟨?_, (s0.more (c' := { c with nx := wadd c.nx 1 }) _ (s0.segI (seq := c.nx) (fl := 24) (win := 2048) h.nx h.inx (by omega) (by omega) (by simp; omega)) rfl rfl rfl rfl rfl).le (by omega)⟩) (fun _ => ⟨h.tm_of tm0_ok h0, (s0.put { c with tm := tm0 } rfl rfl rfl rfl h.inx).le (by omega)⟩))))
  have hs' : ¬ 0 < c.sent := by simpa using hs
  have hl' : 0 < (c.out.length : Int) := by simpa using hl
  have h1' : c.st ≠ 1 := by simpa using h1
  have hst := h.st
  have hst2 : c.st = 2 ∨ c.st = 5 := by
    rcases (by omega : c.st = 2 ∨ c.st = 5 ∨ (c.st = 4 ∨ c.st = 8) ∨ (c.st = 3 ∨ c.st = 6 ∨ c.st = 7)) with e | e | e | e
    · exact .inl e
    · exact .inr e
    · have := (h.num.b e).2.2; rw [this] at hl'; simp at hl'
    · have := (h.num.d e).2; omega
  obtain ⟨a, b⟩ := h.num.e hst2
  have hb := wadd_bd c.nx 1
  have hsn : wdiff (wadd c.nx 1) c.una = c.sent + 1 := by
    unfold Cn.sent at *
    rw [wdiff_add a (by decide) (by omega)]
  refine ⟨⟨h.link, h.ip, h.pp, h.port, h.st, h.una, by show 0 ≤ wadd c.nx 1 ∧ wadd c.nx 1 ≤ 4294967295; omega, h.win, h.len, h.may, h.tm⟩, ⟨fun e => ?_, fun e => ?_, fun e => ?_, fun e => ?_, fun _ => ?_⟩⟩
  · have e : c.st = 0 := e; omega
  · have e : c.st = 1 := e; omega
  · have e : c.st = 4 ∨ c.st = 8 := e; omega
  · have e : c.st = 3 ∨ c.st = 6 ∨ c.st = 7 := e; omega
  · show 0 ≤ wdiff (wadd c.nx 1) c.una ∧ wdiff (wadd c.nx 1) c.una ≤ (c.out.length : Int)
    rw [hsn]; omega
theorem beat_I {c : Cn} (h : CnI c) : CnI { c with tm := tmBeat c.tm } := by
  refine ⟨⟨h.link, h.ip, h.pp, h.port, h.st, h.una, h.nx, h.win, h.len, h.may, tmBeat_ok h.tm⟩, ⟨fun e => ?_, h.num.a, h.num.b, h.num.d, h.num.e⟩⟩
  obtain ⟨a, b, d⟩ := h.num.z e
  exact ⟨a, b, by show tmBeat c.tm = tm0; rw [d]; rfl⟩
theorem StI.of {c c' : Cn} {n : Nat} {y : Stp} (h : StI c' n y) (e1 : c'.link = c.link) (e2 : c'.ip = c.ip) (e3 : c'.pp = c.pp) (e4 : c'.port = c.port) : StI c n y :=
  ⟨by rw [← e4]; exact h.port, by rw [← e3]; exact h.pp, h.e1.trans e1, h.e2.trans e2, h.e3.trans e3, h.e4.trans e4, h.inx, fun m hm => ⟨(h.segs m hm).ok, (h.segs m hm).sp.trans e4, (h.segs m hm).dp.trans e3, (h.segs m hm).len⟩, h.cnt, h.told⟩
theorem tick_I {c : Cn} (h : CnI c) : CnI c.ticks.c ∧ StI c 8200 c.ticks := by
  have h1 := beat_I h
  have s1 := (StI.start h1.toCnF).of (c := c) rfl rfl rfl rfl
  unfold Cn.ticks
  refine bif_p (p := fun r : Stp => CnI r.c ∧ StI c 8200 r) (fun hr => bif_p (p := fun r : Stp => CnI r.c ∧ StI c 8200 r) (fun _ => ⟨h1.toCnF.shut, s1.shut.le (by omega)⟩) (fun h8 => bif_p (p := fun r : Stp => CnI r.c ∧ StI c 8200 r) (fun _ => ?_) (fun ht => ?_))) (fun _ => ⟨h1, s1.le (by omega)⟩)
  · obtain ⟨a, b⟩ := abort_I h1
    exact ⟨a, b.of rfl rfl rfl rfl⟩
  · have hon : c.tm.on = true := by
      unfold tmRings at hr
      rw [Bool.and_eq_true] at hr
      exact hr.1
    have h0 : c.st ≠ 0 := fun e => by
      obtain ⟨_, _, d⟩ := h.num.z e
      rw [d] at hon; cases hon
    have h2 : CnI ({ c with tm := tmBack (tmBeat c.tm) } : Cn) := h1.tm_of (c := { c with tm := tmBeat c.tm }) (tmBack_ok (tmBeat_ok h.tm) hon (by have := ht; simp only [beq_eq_false_iff_ne] at this; exact this)) h0
    obtain ⟨a, b⟩ := again_I h2 h0 (by simpa using h8)
    exact ⟨a, b.of rfl rfl rfl rfl⟩
theorem open_I {link ip iss : Int} {m : Sg} (h : openB link ip iss m = true) : CnI (opens link ip iss m).c ∧ StI (opens link ip iss m).c 8200 (opens link ip iss m) := by
  unfold openB at h
  simp only [Bool.and_eq_true, within, decide_eq_true_eq] at h
  obtain ⟨hl, hi, hs, hm, hf⟩ := h
  obtain ⟨h1, h2, h3, h4, h5, h6, h7⟩ := sgB_w hm
  have hb := wadd_bd iss 1
  have hb2 := wadd_bd m.seq 1
  have hI : CnI (⟨link, ip, m.sp, m.dp, 1, iss, wadd iss 1, m.win, [], wadd m.seq 1, [], false, tmNew 3⟩ : Cn) := by
    refine ⟨⟨hl, hi, h1, h2, by show (0:Int) ≤ 1 ∧ (1:Int) ≤ 8; omega, hs, by show 0 ≤ wadd iss 1 ∧ wadd iss 1 ≤ 4294967295; omega, h6, by simp, may_next, tm3_ok⟩, ⟨fun e => ?_, fun _ => ?_, fun e => ?_, fun e => ?_, fun e => ?_⟩⟩
    · exact absurd e (by show ¬ (1 : Int) = 0; decide)
    · show wdiff (wadd iss 1) iss = 1
      unfold wdiff wadd; omega
    · exact absurd e (by show ¬ ((1 : Int) = 4 ∨ (1 : Int) = 8); decide)
    · exact absurd e (by show ¬ ((1 : Int) = 3 ∨ (1 : Int) = 6 ∨ (1 : Int) = 7); decide)
    · exact absurd e (by show ¬ ((1 : Int) = 2 ∨ (1 : Int) = 5); decide)
  exact ⟨hI, ((StI.start hI.toCnF).seg (seq := iss) (fl := 18) (data := []) hs (by omega) (by simp)).le (by omega)⟩
end Go.Proofs.YtoknaaoioglapaaGreat

/- The statement wakes; how much a script weighs; what fits: on data. Conditions: lengths. -/
namespace Go.Proofs.YtoknaaoioglapaaGreat
open Go.RowKit
set_option linter.unusedVariables false
set_option linter.unusedSimpArgs false
set_option maxRecDepth 100000
set_option maxHeartbeats 4000000
theorem wake_open : opens 1 7 100 (⟨5, 1883, 50, 0, 2, 1000, []⟩ : Sg) = (⟨⟨1, 7, 5, 1883, 1, 100, 101, 1000, [], 51, [], false, ⟨true, 3, 3, 0⟩⟩, [⟨1883, 5, 100, 51, 18, 2048, []⟩], []⟩ : Stp) := by kernel_rfl
theorem wake_take : (Cn.takes (Stp.c (⟨⟨1, 7, 5, 1883, 1, 100, 101, 1000, [], 51, [], false, ⟨true, 3, 3, 0⟩⟩, [⟨1883, 5, 100, 51, 18, 2048, []⟩], []⟩ : Stp)) (⟨5, 1883, 51, 101, 16, 1000, []⟩ : Sg)).out = [] ∧ (Cn.takes (Stp.c (⟨⟨1, 7, 5, 1883, 1, 100, 101, 1000, [], 51, [], false, ⟨true, 3, 3, 0⟩⟩, [⟨1883, 5, 100, 51, 18, 2048, []⟩], []⟩ : Stp)) (⟨5, 1883, 51, 101, 16, 1000, []⟩ : Sg)).c.st = 2 := by
  constructor <;> kernel_rfl
theorem wakes16_l : ACallL Tryz.prog 20 [] [.perm] (.val (.bool true)) [.perm] := by
  have cO := tcpOpenA_l 1 7 100 (⟨5, 1883, 50, 0, 2, 1000, []⟩ : Sg) (by decide +kernel)
  rw [wake_open] at cO
  have cT := tcpTake_l (Stp.c (⟨⟨1, 7, 5, 1883, 1, 100, 101, 1000, [], 51, [], false, ⟨true, 3, 3, 0⟩⟩, [⟨1883, 5, 100, 51, 18, 2048, []⟩], []⟩ : Stp)) (⟨5, 1883, 51, 101, 16, 1000, []⟩ : Sg) (by decide +kernel) (by decide +kernel)
  obtain ⟨h1, h2⟩ := wake_take
  obtain ⟨y, hy⟩ : ∃ r, Cn.takes (Stp.c (⟨⟨1, 7, 5, 1883, 1, 100, 101, 1000, [], 51, [], false, ⟨true, 3, 3, 0⟩⟩, [⟨1883, 5, 100, 51, 18, 2048, []⟩], []⟩ : Stp)) (⟨5, 1883, 51, 101, 16, 1000, []⟩ : Sg) = r := ⟨_, rfl⟩
  rw [hy] at cT h1 h2
  rw [h1] at cT
  unfold stA at cO
  dsimp only [cnG, cnR, cnL, sgG, sgR, sgL, tmC] at cO cT
  rw [h2] at cT
  refine ACallL.of_ev mixed Tryz.func20 rfl (fun a w => Tryz.call20 a w) (congrArg Array.toList Tryz.results20) Tryz.ntmps20 fun B hB => ?_
  ((conv => whnf); (repeat' ((first | (with_reducible first | refine qif_n ?_ | refine qif_t ‹_› ?_ | refine qif_f ‹_› ?_) | ((with_reducible refine qif_t ?_ ?_); focus decide) | ((with_reducible refine qif_f ?_ ?_); focus decide) | (with_reducible refine And.intro (orderOk_i ?ho) ?_; (case ho => kernel_rfl)) | (with_reducible first | refine qif_i (fun _ => ?_) (fun _ => ?_) | refine frcVs_i ?_ | refine frcRs_i ?_) | ((with_reducible refine qCall.pure (num16_l _) ?_ ?_ ?_ ?_); rotate_left 4; exact trivial; exact plT; exact plT)) <;> (conv => whnf))))
  ((with_reducible refine qCall.of (cO) [] [(0, 0)] [] [(1, 1), (2, 2), (3, 3), (4, 4), (5, 5)] [(1, .uniq), (2, .uniq), (3, .uniq), (4, .uniq), (5, .uniq)] (stA (⟨⟨1, 7, 5, 1883, 1, 100, 101, 1000, [], 51, [], false, ⟨true, 3, 3, 0⟩⟩, [⟨1883, 5, 100, 51, 18, 2048, []⟩], []⟩ : Stp)) ?hk ?_); (case hk => rfl); (conv => whnf); (repeat (refine And.intro ?_ ?_; exact sideT; (conv => whnf))); (fail_if_success (with_reducible first | refine And.intro (eqv_i ?_) ?_ | refine And.intro (ren_i ?_) ?_)))
  ((conv => whnf); (repeat' ((first | (with_reducible first | refine qif_n ?_ | refine qif_t ‹_› ?_ | refine qif_f ‹_› ?_) | ((with_reducible refine qif_t ?_ ?_); focus decide) | ((with_reducible refine qif_f ?_ ?_); focus decide) | (with_reducible refine And.intro (orderOk_i ?ho) ?_; (case ho => kernel_rfl)) | (with_reducible first | refine qif_i (fun _ => ?_) (fun _ => ?_) | refine frcVs_i ?_ | refine frcRs_i ?_) | ((with_reducible refine qCall.pure (num16_l _) ?_ ?_ ?_ ?_); rotate_left 4; exact trivial; exact plT; exact plT)) <;> (conv => whnf))))
  ((with_reducible refine qCall.of (cT) [] [(0, 0), (0, 1), (0, 2), (0, 3)] [] [(1, 7), (2, 8), (3, 9), (4, 10), (5, 11), (6, 12)] [(7, .uniq), (8, .uniq), (9, .uniq), (10, .uniq), (11, .uniq), (12, .uniq)] (.tup [.agg (cnL (gL 7 y.c.out) (.list 8 2 (y.c.parts.map (prg 9))) ({ y.c with st := 2 } : Cn)), .glist 10 7 [], gL 12 y.told, .val (.int .i64 0)]) ?hk ?_); (case hk => rfl); (conv => whnf); (repeat (refine And.intro ?_ ?_; exact sideT; (conv => whnf))); (fail_if_success (with_reducible first | refine And.intro (eqv_i ?_) ?_ | refine And.intro (ren_i ?_) ?_)))
  ((conv => whnf); (repeat' ((first | (with_reducible first | refine qif_n ?_ | refine qif_t ‹_› ?_ | refine qif_f ‹_› ?_) | ((with_reducible refine qif_t ?_ ?_); focus decide) | ((with_reducible refine qif_f ?_ ?_); focus decide) | (with_reducible refine And.intro (orderOk_i ?ho) ?_; (case ho => kernel_rfl)) | (with_reducible first | refine qif_i (fun _ => ?_) (fun _ => ?_) | refine frcVs_i ?_ | refine frcRs_i ?_) | ((with_reducible refine qCall.pure (num16_l _) ?_ ?_ ?_ ?_); rotate_left 4; exact trivial; exact plT; exact plT)) <;> (conv => whnf))))
  all_goals first | ((refine qConv.of hB [] [(0, 0)] [] (by rfl) ?_; focus ((conv => whnf); (repeat (refine And.intro ?_ ?_; rotate_left; (conv => whnf))); exact trivial; all_goals (try exact andT))); all_goals rfl; done) | (exfalso; simp_all; done)
structure Act where
  dw : Int
  n : Int
  m : Int
  s : Sg
  fit : Bool
  b : List Int
abbrev acL (d b : AV) (a : Act) : List AV := [.val (.int .i64 a.dw), .val (.int .i64 a.n), .val (.int .i64 a.m), .val (.int .i64 a.s.sp), .val (.int .i64 a.s.dp), .val (.int .i64 a.s.seq), .val (.int .i64 a.s.ack), .val (.int .i64 a.s.fl), .val (.int .i64 a.s.win), d, .val (.bool a.fit), b]
abbrev acR (r : Nat) (a : Act) : List AV := acL (bL r a.s.data) (bL r a.b) a
theorem pl_acts (l : List Act) : PlRows (l.map (acR 0)) := by
  refine PlRows.mapF _ _ fun m _ => ?_
  have pz := pl_bytes m.s.data
  have py := pl_bytes m.b
  intro x hx
  simp only [acR, acL, List.mem_cons, List.not_mem_nil, or_false] at hx
  rcases hx with rfl | rfl | rfl | rfl | rfl | rfl | rfl | rfl | rfl | rfl | rfl | rfl <;> first | exact .val _ | exact .list _ _ pz | exact .list _ _ py
def ago : Int → List Act → Int
  | n, [] => n
  | n, a :: l => if n < 1048576 then ago (n + a.s.data.length + a.b.length) l else n
theorem ago_ge : ∀ (l : List Act) (n : Int), n ≤ ago n l
  | [], n => Int.le_refl _
  | p :: ps, n => by
    unfold ago
    split
    · have := ago_ge ps (n + p.s.data.length + p.b.length); omega
    · exact Int.le_refl _
theorem ago_le : ∀ (l : List Act) (n : Int), 0 ≤ n → ago n l ≤ 30000 → n ≤ 30000 ∧ ∀ a ∈ l, a.s.data.length ≤ 30000 ∧ a.b.length ≤ 30000
  | [], n, h0, h => ⟨by simpa [ago] using h, by simp⟩
  | p :: ps, n, h0, h => by
    unfold ago at h
    split at h
    · obtain ⟨h1, h2⟩ := ago_le ps _ (by omega) h
      refine ⟨by omega, fun q hq => ?_⟩
      rcases List.mem_cons.1 hq with rfl | hq
      · omega
      · exact h2 q hq
    · omega
theorem ago_step {l : List Act} {k : Nat} {a : Act} {n g : Int} (h : l[k]? = some a) (hn : n < 1048576) (hg : ago n (l.drop k) = g) : ago (n + a.s.data.length + a.b.length) (l.drop (k + 1)) = g := by
  rw [drop_cons h, ago, if_pos hn] at hg; exact hg
theorem ago_stop {l : List Act} {k : Nat} {n g : Int} (hk : k < l.length) (hn : ¬ n < 1048576) (hg : ago n (l.drop k) = g) : n = g := by
  rw [drop_cons (List.getElem?_eq_getElem hk), ago, if_neg hn] at hg; exact hg
def CnBig (c : Cn) : Prop := c.out.length ≤ 140737488351232 ∧ PtsLen c.parts
def ActsLen (l : List Act) : Prop := l.length ≤ 140737488351232 ∧ ∀ a ∈ l, a.s.data.length ≤ 140737488351232 ∧ a.b.length ≤ 140737488351232
def cwt (c : Cn) : Int := wgo c.out.length c.parts
def hv16 (c : Cn) (l : List Act) : Bool := decide (30000 < ago (cwt c) l) || decide (100 < (l.length : Int))
theorem hv16_no {c : Cn} {l : List Act} (h : hv16 c l = false) : CnLen c ∧ c.out.length ≤ 30000 ∧ l.length ≤ 100 ∧ ∀ a ∈ l, a.s.data.length ≤ 30000 ∧ a.b.length ≤ 30000 := by
  simp only [hv16, Bool.or_eq_false_iff, decide_eq_false_iff_not] at h
  have g0 := wgo_ge c.parts c.out.length
  have g := ago_ge l (cwt c)
  obtain ⟨c1, d⟩ := ago_le l (cwt c) (by unfold cwt; omega) (by omega)
  obtain ⟨a, b⟩ := wgo_le c.parts c.out.length (by omega) (by unfold cwt at c1; omega)
  unfold cwt at c1
  refine ⟨⟨by omega, ⟨by omega, fun p hp => by have := b p hp; omega⟩⟩, by omega, by omega, d⟩
theorem connWeight_l (c : Cn) (hc : CnBig c) : ACallL Tryz.prog 21 [.agg (cnR 0 c)] [.perm] (.val (.int .i64 (cwt c))) [.perm] := by
  have hlen : (c.parts.map (prt 0)).length = c.parts.length := by simp
  have px := pl_bytes c.out
  have py := pl_parts c.parts
  obtain ⟨h1, h2, h3⟩ := hc
  have lo : (c.out.map bR).length = c.out.length := by simp
  obtain ⟨G, hG⟩ : ∃ G, cwt c = G := ⟨_, rfl⟩
  rw [hG]
  unfold cwt at hG
  obtain ⟨ps, hps⟩ : ∃ r, c.parts = r := ⟨_, rfl⟩
  dsimp only [cnR, cnL]
  rw [hps] at hlen py h2 h3 hG ⊢
  refine ACallL.of_ev mixed Tryz.func21 rfl (fun a w => Tryz.call21 a w) (congrArg Array.toList Tryz.results21) Tryz.ntmps21 fun B hB => ?_
  ((conv => whnf); (repeat' ((first | (with_reducible first | refine qif_n ?_ | refine qif_t ‹_› ?_ | refine qif_f ‹_› ?_) | ((with_reducible refine qif_t ?_ ?_); focus decide) | ((with_reducible refine qif_f ?_ ?_); focus decide) | (with_reducible refine And.intro (orderOk_i ?ho) ?_; (case ho => kernel_rfl)) | (with_reducible first | refine qif_i (fun _ => ?_) (fun _ => ?_) | refine frcVs_i ?_ | refine frcRs_i ?_)) <;> (conv => whnf))))
  refine qAW.loop mixed (X := Nat × Int) (fun x => slotsOf 32 [(1, .ptr 1 0 0), (3, .val (.int .i64 x.2)), (4, .val (.int .i64 x.1))]) (fun x => [.perm, .live ⟨16, 29, [cnL (bL 0 c.out) (.list 0 2 (ps.map (prt 0))) c]⟩]) (fun x => (x.1 ≤ ps.length ∧ 0 ≤ x.2 ∧ x.2 ≤ 300000000000000) ∧ wgo x.2 (ps.drop x.1) = G) (fun x => ps.length - x.1) (0, (c.out.length : Int)) ⟨⟨Nat.zero_le _, by dsimp only; omega, by dsimp only; omega⟩, hG⟩ ?_ ?_
  · (refine qConv.of hB [(1, 1)] [(0, 0)] [] (by rfl) ?_; focus ((conv => whnf); (repeat (refine And.intro ?_ ?_; rotate_left; (conv => whnf))); exact trivial; all_goals (try exact andT)))
    all_goals first | rfl | (rw [lo]; done) | (exact rowsT) | skip
  · rintro ⟨k, v⟩ ⟨⟨hk, h02, h12⟩, hg2⟩
    dsimp only at hk h02 h12 hg2 ⊢
    have w := IntWalk.i64_in (k + 1) (by omega)
    by_cases hlt : k < ps.length
    · obtain ⟨⟨s2, xs2⟩, hxk2⟩ : ∃ p, ps[k]? = some p := ⟨_, List.getElem?_eq_getElem hlt⟩
      have hx2 := h3 _ (List.mem_of_getElem? hxk2)
      dsimp only at hx2
      have hrow2 : (ps.map (prt 0))[(k : Int).toNat]? = some [.val (.int .i64 s2), bL 0 xs2] := by simp [hxk2]
      have lx2 : (xs2.map bR).length = xs2.length := by simp
      by_cases hv2 : v < 1048576
      · have w1 := IntWalk.i64_in (v + 1) (by omega)
        have w2 := IntWalk.i64_in (v + 1 + xs2.length) (by omega)
        have hs2 := wgo_step hxk2 hv2 hg2
        ((conv => whnf); (repeat' ((first | (with_reducible first | refine qif_n ?_ | refine qif_t ‹_› ?_ | refine qif_f ‹_› ?_) | ((with_reducible refine qif_t ?_ ?_); focus decide) | ((with_reducible refine qif_f ?_ ?_); focus decide) | (with_reducible refine And.intro (orderOk_i ?ho) ?_; (case ho => kernel_rfl)) | ((with_reducible refine qif_t ?_ ?_); focus (simp [hlt, hv2]; done)) | ((with_reducible refine qif_f ?_ ?_); focus (simp [hlt, hv2]; done)) | (with_reducible first | refine qif_i (fun _ => ?_) (fun _ => ?_) | refine frcVs_i ?_ | refine frcRs_i ?_) | (refine qCase_i (idxL rfl rfl rfl rfl rfl rfl (by omega) hrow2) ?_)) <;> (conv => whnf))))
        refine ⟨(k + 1, v + 1 + xs2.length), ⟨⟨by dsimp only; omega, by dsimp only; omega, by dsimp only; omega⟩, hs2⟩, by dsimp only; omega, ?_⟩
        (refine qConv.of hB [(1, 1)] [(0, 0)] [] (by rfl) ?_; focus ((conv => whnf); (repeat (refine And.intro ?_ ?_; rotate_left; (conv => whnf))); exact trivial; all_goals (try exact andT)))
        all_goals first | rfl | (exact rowsT) | (simp [w]; done) | (rw [lx2, w1, w2]; done) | skip
      · have e := wgo_stop hlt hv2 hg2
        ((conv => whnf); (repeat' ((first | (with_reducible first | refine qif_n ?_ | refine qif_t ‹_› ?_ | refine qif_f ‹_› ?_) | ((with_reducible refine qif_t ?_ ?_); focus decide) | ((with_reducible refine qif_f ?_ ?_); focus decide) | (with_reducible refine And.intro (orderOk_i ?ho) ?_; (case ho => kernel_rfl)) | ((with_reducible refine qif_t ?_ ?_); focus (simp [hlt, hv2]; done)) | ((with_reducible refine qif_f ?_ ?_); focus (simp [hlt, hv2]; done)) | (with_reducible first | refine qif_i (fun _ => ?_) (fun _ => ?_) | refine frcVs_i ?_ | refine frcRs_i ?_)) <;> (conv => whnf))))
        all_goals (refine qConv.of hB [] [(0, 0)] [] (by rfl) ?_; focus ((conv => whnf); (repeat (refine And.intro ?_ ?_; rotate_left; (conv => whnf))); exact trivial; all_goals (try exact andT)))
        all_goals (rw [e])
    · have e2 : k = ps.length := by omega
      have e : v = G := by rw [e2, List.drop_length] at hg2; exact hg2
      ((conv => whnf); (repeat' ((first | (with_reducible first | refine qif_n ?_ | refine qif_t ‹_› ?_ | refine qif_f ‹_› ?_) | ((with_reducible refine qif_t ?_ ?_); focus decide) | ((with_reducible refine qif_f ?_ ?_); focus decide) | (with_reducible refine And.intro (orderOk_i ?ho) ?_; (case ho => kernel_rfl)) | ((with_reducible refine qif_t ?_ ?_); focus (simp [hlt]; done)) | ((with_reducible refine qif_f ?_ ?_); focus (simp [hlt]; done)) | (with_reducible first | refine qif_i (fun _ => ?_) (fun _ => ?_) | refine frcVs_i ?_ | refine frcRs_i ?_)) <;> (conv => whnf))))
      all_goals (refine qConv.of hB [] [(0, 0)] [] (by rfl) ?_; focus ((conv => whnf); (repeat (refine And.intro ?_ ?_; rotate_left; (conv => whnf))); exact trivial; all_goals (try exact andT)))
      all_goals (rw [e])
theorem heavy16_l (c : Cn) (l : List Act) (hc : CnBig c) (hl : ActsLen l) : ACallL Tryz.prog 14 [.agg (cnR 0 c ++ [.list 0 12 (l.map (acR 0))])] [.perm] (.val (.bool (hv16 c l))) [.perm] := by
  have px := pl_bytes c.out
  have py := pl_parts c.parts
  have pz := pl_acts l
  have hlen : (l.map (acR 0)).length = l.length := by simp
  have cW := connWeight_l c hc
  have hw : 0 ≤ cwt c ∧ cwt c ≤ 300000000000000 := by
    obtain ⟨h1, h2, h3⟩ := hc
    have g := wgo_ge c.parts c.out.length
    refine ⟨by unfold cwt; omega, ?_⟩
    have key : ∀ (ps : List Pt) (n : Int), (∀ p ∈ ps, p.2.length ≤ 140737488351232) → n ≤ 140737488351232 → wgo n ps ≤ 300000000000000 := by
      intro ps
      induction ps with
      | nil => intro n _ h; simp only [wgo]; omega
      | cons p ps ih =>
        intro n hp h
        unfold wgo
        split
        · by_cases h4 : n + 1 + p.2.length ≤ 140737488351232
          · exact ih _ (fun q hq => hp q (List.mem_cons_of_mem _ hq)) h4
          · have hp1 := hp p (List.mem_cons_self ..)
            cases ps with
            | nil => simp only [wgo]; omega
            | cons q qs => rw [wgo, if_neg (by omega)]; omega
        · omega
    exact key c.parts _ h3 (by omega)
  obtain ⟨W0, hW0⟩ : ∃ r, cwt c = r := ⟨_, rfl⟩
  rw [hW0] at cW hw
  obtain ⟨G, hG⟩ : ∃ G, ago W0 l = G := ⟨_, rfl⟩
  obtain ⟨H, hH⟩ : ∃ H, hv16 c l = H := ⟨_, rfl⟩
  rw [hH]
  obtain ⟨hl1, hl2⟩ := hl
  dsimp only [cnR, cnL, List.cons_append, List.nil_append] at cW ⊢
  refine ACallL.of_ev mixed Tryz.func14 rfl (fun a w => Tryz.call14 a w) (congrArg Array.toList Tryz.results14) Tryz.ntmps14 fun B hB => ?_
  ((conv => whnf); (repeat' ((first | (with_reducible first | refine qif_n ?_ | refine qif_t ‹_› ?_ | refine qif_f ‹_› ?_) | ((with_reducible refine qif_t ?_ ?_); focus decide) | ((with_reducible refine qif_f ?_ ?_); focus decide) | (with_reducible refine And.intro (orderOk_i ?ho) ?_; (case ho => kernel_rfl)) | (with_reducible first | refine qif_i (fun _ => ?_) (fun _ => ?_) | refine frcVs_i ?_ | refine frcRs_i ?_) | ((with_reducible refine qCall.pure (cW) ?_ ?_ ?_ ?_); rotate_left 4; exact trivial; exact plT; exact plT)) <;> (conv => whnf))))
  refine qAW.loop mixed (X := Nat × Int) (fun x => slotsOf 45 [(1, .ptr 1 0 0), (3, .val (.int .i64 x.2)), (4, .val (.int .i64 x.1))]) (fun x => [.perm, .live ⟨17, 32, [cnR 0 c ++ [.list 0 12 (l.map (acR 0))]]⟩]) (fun x => (x.1 ≤ l.length ∧ 0 ≤ x.2 ∧ x.2 ≤ 600000000000000) ∧ ago x.2 (l.drop x.1) = G) (fun x => l.length - x.1) (0, W0) ⟨⟨Nat.zero_le _, by dsimp only; omega, by dsimp only; omega⟩, hG⟩ ?_ ?_
  · (refine qConv.of hB [(1, 1)] [(0, 0)] [] (by rfl) ?_; focus ((conv => whnf); (repeat (refine And.intro ?_ ?_; rotate_left; (conv => whnf))); exact trivial; all_goals (try exact andT)))
    all_goals first | rfl | (exact rowsT) | skip
  · rintro ⟨k, v⟩ ⟨⟨hk, h02, h12⟩, hg2⟩
    dsimp only at hk h02 h12 hg2 ⊢
    dsimp only [cnR, cnL, List.cons_append, List.nil_append]
    have w := IntWalk.i64_in (k + 1) (by omega)
    by_cases hlt : k < l.length
    · obtain ⟨a, hxk2⟩ : ∃ p, l[k]? = some p := ⟨_, List.getElem?_eq_getElem hlt⟩
      have hx2 := hl2 _ (List.mem_of_getElem? hxk2)
      have hrow2 : (l.map (acR 0))[(k : Int).toNat]? = some (acR 0 a) := by simp [hxk2]
      have lx2 : (a.s.data.map bR).length = a.s.data.length := by simp
      have ly2 : (a.b.map bR).length = a.b.length := by simp
      by_cases hv2 : v < 1048576
      · have w1 := IntWalk.i64_in (v + a.s.data.length) (by omega)
        have w2 := IntWalk.i64_in (v + a.s.data.length + a.b.length) (by omega)
        have hs2 := ago_step hxk2 hv2 hg2
        ((conv => whnf); (repeat' ((first | (with_reducible first | refine qif_n ?_ | refine qif_t ‹_› ?_ | refine qif_f ‹_› ?_) | ((with_reducible refine qif_t ?_ ?_); focus decide) | ((with_reducible refine qif_f ?_ ?_); focus decide) | (with_reducible refine And.intro (orderOk_i ?ho) ?_; (case ho => kernel_rfl)) | ((with_reducible refine qif_t ?_ ?_); focus (simp [hlt, hv2]; done)) | ((with_reducible refine qif_f ?_ ?_); focus (simp [hlt, hv2]; done)) | (with_reducible first | refine qif_i (fun _ => ?_) (fun _ => ?_) | refine frcVs_i ?_ | refine frcRs_i ?_) | (refine qCase_i (idxL rfl rfl rfl rfl rfl rfl (by omega) hrow2) ?_)) <;> (conv => whnf))))
        refine ⟨(k + 1, v + a.s.data.length + a.b.length), ⟨⟨by dsimp only; omega, by dsimp only; omega, by dsimp only; omega⟩, hs2⟩, by dsimp only; omega, ?_⟩
        (refine qConv.of hB [(1, 1)] [(0, 0)] [] (by rfl) ?_; focus ((conv => whnf); (repeat (refine And.intro ?_ ?_; rotate_left; (conv => whnf))); exact trivial; all_goals (try exact andT)))
        all_goals first | rfl | (exact rowsT) | (simp [w]; done) | (rw [lx2, ly2, w1, w2]; done) | skip
      · have e := ago_stop hlt hv2 hg2
        ((conv => whnf); (repeat' ((first | (with_reducible first | refine qif_n ?_ | refine qif_t ‹_› ?_ | refine qif_f ‹_› ?_) | ((with_reducible refine qif_t ?_ ?_); focus decide) | ((with_reducible refine qif_f ?_ ?_); focus decide) | (with_reducible refine And.intro (orderOk_i ?ho) ?_; (case ho => kernel_rfl)) | ((with_reducible refine qif_t ?_ ?_); focus (simp [hlt, hv2]; done)) | ((with_reducible refine qif_f ?_ ?_); focus (simp [hlt, hv2]; done)) | (with_reducible first | refine qif_i (fun _ => ?_) (fun _ => ?_) | refine frcVs_i ?_ | refine frcRs_i ?_)) <;> (conv => whnf))))
        all_goals (refine qConv.of hB [] [(0, 0)] [] (by rfl) ?_; focus ((conv => whnf); (repeat (refine And.intro ?_ ?_; rotate_left; (conv => whnf))); exact trivial; all_goals (try exact andT)))
        all_goals (rw [← hH, hv16, hW0, hG, ← e]; rename_i hz; simp only [decide_eq_true_eq, decide_eq_false_iff_not] at hz; simp [hz])
    · have e2 : k = l.length := by omega
      have e : v = G := by rw [e2, List.drop_length] at hg2; exact hg2
      ((conv => whnf); (repeat' ((first | (with_reducible first | refine qif_n ?_ | refine qif_t ‹_› ?_ | refine qif_f ‹_› ?_) | ((with_reducible refine qif_t ?_ ?_); focus decide) | ((with_reducible refine qif_f ?_ ?_); focus decide) | (with_reducible refine And.intro (orderOk_i ?ho) ?_; (case ho => kernel_rfl)) | ((with_reducible refine qif_t ?_ ?_); focus (simp [hlt]; done)) | ((with_reducible refine qif_f ?_ ?_); focus (simp [hlt]; done)) | (with_reducible first | refine qif_i (fun _ => ?_) (fun _ => ?_) | refine frcVs_i ?_ | refine frcRs_i ?_)) <;> (conv => whnf))))
      all_goals (refine qConv.of hB [] [(0, 0)] [] (by rfl) ?_; focus ((conv => whnf); (repeat (refine And.intro ?_ ?_; rotate_left; (conv => whnf))); exact trivial; all_goals (try exact andT)))
      all_goals (rw [← hH, hv16, hW0, hG, ← e]; rename_i hz; simp only [decide_eq_true_eq, decide_eq_false_iff_not] at hz; simp [hz])
end Go.Proofs.YtoknaaoioglapaaGreat

/- The argument of the statements on tcp as data. No condition. -/
namespace Go.Proofs.YtoknaaoioglapaaGreat
open Go.RowKit
set_option linter.unusedVariables false
set_option linter.unusedSimpArgs false
set_option maxRecDepth 100000
set_option maxHeartbeats 4000000
theorem cells_bool : Tryz.prog.cellsOf 4 = 1 := by kernel_rfl
theorem cells_timer : Tryz.prog.cellsOf 27 = 4 := by kernel_rfl
theorem cells_conn : Tryz.prog.cellsOf 29 = 16 := by kernel_rfl
theorem cells_seg : Tryz.prog.cellsOf 43 = 7 := by kernel_rfl
theorem cells_act : Tryz.prog.cellsOf 45 = 12 := by kernel_rfl
theorem cells_acts : Tryz.prog.cellsOf 30 = 1 := by kernel_rfl
theorem size_act : Tryz.prog.bytesOf 45 = 128 := by kernel_rfl
theorem cells_script16 : Tryz.prog.cellsOf 32 = 17 := by kernel_rfl
theorem ty_bool {q : Nat} {avs : List AV} (h : TyZV Tryz.prog (q + 1) 4 avs) : ∃ b, avs = [.val (.bool b)] := by
  simp only [TyZV, Tryz.underlying4] at h; exact h
theorem ty_timer {q : Nat} {avs : List AV} (h : TyZV Tryz.prog (q + 2) 27 avs) : ∃ t : Tm, avs = [.val (.bool t.on), .val (.int .i64 t.left), .val (.int .i64 t.wait), .val (.int .i64 t.tries)] := by
  unfold TyZV at h
  rw [Tryz.underlying27] at h
  obtain ⟨hl, hx⟩ := h
  rw [cells_timer] at hl
  match avs, hl with
  | [c0, c1, c2, c3], _ =>
    simp only [List.forall_mem_cons, cells_bool, cells_int, List.drop, List.take] at hx
    obtain ⟨h0, h1, h2, h3, -⟩ := hx
    obtain ⟨b, e0⟩ := ty_bool h0
    obtain ⟨i1, e1, -⟩ := ty_int h1
    obtain ⟨i2, e2, -⟩ := ty_int h2
    obtain ⟨i3, e3, -⟩ := ty_int h3
    simp only [List.cons.injEq, and_true] at e0 e1 e2 e3
    subst e0 e1 e2 e3
    exact ⟨⟨b, i1, i2, i3⟩, rfl⟩
theorem ty_conn {q : Nat} {avs : List AV} (h : TyZV Tryz.prog (q + 6) 29 avs) : ∃ c : Cn, avs = cnR 0 c ∧ CnBig c := by
  unfold TyZV at h
  rw [Tryz.underlying29] at h
  obtain ⟨hl, hx⟩ := h
  rw [cells_conn] at hl
  match avs, hl with
  | [c0, c1, c2, c3, c4, c5, c6, c7, c8, c9, c10, c11, c12, c13, c14, c15], _ =>
    simp only [List.forall_mem_cons, cells_bool, cells_int, cells_bytes, cells_buffer, cells_timer, List.drop, List.take] at hx
    obtain ⟨h0, h1, h2, h3, h4, h5, h6, h7, h8, h9, h10, h11, -⟩ := hx
    obtain ⟨i0, e0, -⟩ := ty_int h0
    obtain ⟨i1, e1, -⟩ := ty_int h1
    obtain ⟨i2, e2, -⟩ := ty_int h2
    obtain ⟨i3, e3, -⟩ := ty_int h3
    obtain ⟨i4, e4, -⟩ := ty_int h4
    obtain ⟨i5, e5, -⟩ := ty_int h5
    obtain ⟨i6, e6, -⟩ := ty_int h6
    obtain ⟨i7, e7, -⟩ := ty_int h7
    obtain ⟨o, e8, b8⟩ := ty_bytes h8
    obtain ⟨n, ps, e9, b9, b9'⟩ := ty_buffer h9
    obtain ⟨cl, e10⟩ := ty_bool h10
    obtain ⟨t, e11⟩ := ty_timer h11
    simp only [List.cons.injEq, and_true] at e0 e1 e2 e3 e4 e5 e6 e7 e8 e9 e10 e11
    obtain ⟨e9, f9⟩ := e9
    obtain ⟨e11, f11, g11, k11⟩ := e11
    subst e0 e1 e2 e3 e4 e5 e6 e7 e8 e9 f9 e10 e11 f11 g11 k11
    exact ⟨⟨i0, i1, i2, i3, i4, i5, i6, i7, o, n, ps, cl, t⟩, rfl, b8.1, b9, fun p hp => (b9' p hp).1⟩
theorem ty_seg {q : Nat} {avs : List AV} (h : TyZV Tryz.prog (q + 3) 43 avs) : ∃ m : Sg, avs = sgR 0 m ∧ m.data.length ≤ 140737488351232 := by
  unfold TyZV at h
  rw [Tryz.underlying43] at h
  obtain ⟨hl, hx⟩ := h
  rw [cells_seg] at hl
  match avs, hl with
  | [c0, c1, c2, c3, c4, c5, c6], _ =>
    simp only [List.forall_mem_cons, cells_int, cells_bytes, List.drop, List.take] at hx
    obtain ⟨h0, h1, h2, h3, h4, h5, h6, -⟩ := hx
    obtain ⟨i0, e0, -⟩ := ty_int h0
    obtain ⟨i1, e1, -⟩ := ty_int h1
    obtain ⟨i2, e2, -⟩ := ty_int h2
    obtain ⟨i3, e3, -⟩ := ty_int h3
    obtain ⟨i4, e4, -⟩ := ty_int h4
    obtain ⟨i5, e5, -⟩ := ty_int h5
    obtain ⟨o, e6, b6⟩ := ty_bytes h6
    simp only [List.cons.injEq, and_true] at e0 e1 e2 e3 e4 e5 e6
    subst e0 e1 e2 e3 e4 e5 e6
    exact ⟨⟨i0, i1, i2, i3, i4, i5, o⟩, rfl, b6.1⟩
theorem ty_act {q : Nat} {avs : List AV} (h : TyZV Tryz.prog (q + 4) 45 avs) : ∃ a : Act, avs = acR 0 a ∧ a.s.data.length ≤ 140737488351232 ∧ a.b.length ≤ 140737488351232 := by
  unfold TyZV at h
  rw [Tryz.underlying45] at h
  obtain ⟨hl, hx⟩ := h
  rw [cells_act] at hl
  match avs, hl with
  | [c0, c1, c2, c3, c4, c5, c6, c7, c8, c9, c10, c11], _ =>
    simp only [List.forall_mem_cons, cells_bool, cells_int, cells_bytes, cells_seg, List.drop, List.take] at hx
    obtain ⟨h0, h1, h2, h3, h4, h5, -⟩ := hx
    obtain ⟨i0, e0, -⟩ := ty_int h0
    obtain ⟨i1, e1, -⟩ := ty_int h1
    obtain ⟨i2, e2, -⟩ := ty_int h2
    obtain ⟨m, e3, b3⟩ := ty_seg h3
    obtain ⟨f, e4⟩ := ty_bool h4
    obtain ⟨o, e5, b5⟩ := ty_bytes h5
    simp only [List.cons.injEq, and_true] at e0 e1 e2 e3 e4 e5
    obtain ⟨e3, f3, g3, k3, l3, m3, n3⟩ := e3
    subst e0 e1 e2 e3 f3 g3 k3 l3 m3 n3 e4 e5
    exact ⟨⟨i0, i1, i2, m, f, o⟩, rfl, b3, b5.1⟩
theorem ty_acts {q : Nat} {avs : List AV} (h : TyZV Tryz.prog (q + 5) 30 avs) : ∃ l : List Act, avs = [.list 0 12 (l.map (acR 0))] ∧ ActsLen l := by
  unfold TyZV at h
  rw [Tryz.underlying30] at h
  obtain ⟨rows, e, _, hz, hr⟩ := h
  obtain ⟨xs, rfl, hx⟩ := rows_shape (f := acR 0) (fun row (h : _ ∧ _) => ty_act (q := q) h.2) rows hr
  rw [size_act, List.length_map] at hz
  exact ⟨xs, by rw [e, cells_act], by have := reach_lt; omega, hx⟩
theorem ty_script16 {avs : List AV} (h : TyZV Tryz.prog 8 32 avs) : ∃ (c : Cn) (l : List Act), avs = cnR 0 c ++ [.list 0 12 (l.map (acR 0))] ∧ CnBig c ∧ ActsLen l := by
  unfold TyZV at h
  rw [Tryz.underlying32] at h
  obtain ⟨hl, hx⟩ := h
  rw [cells_script16] at hl
  match avs, hl with
  | [c0, c1, c2, c3, c4, c5, c6, c7, c8, c9, c10, c11, c12, c13, c14, c15, c16], _ =>
    simp only [List.forall_mem_cons, cells_conn, cells_acts, List.drop, List.take] at hx
    obtain ⟨h0, h1, -⟩ := hx
    obtain ⟨c, e0, b0⟩ := ty_conn (q := 1) h0
    obtain ⟨l, e1, b1⟩ := ty_acts (q := 2) h1
    refine ⟨c, l, ?_, b0, b1⟩
    rw [← e0, ← e1]
    rfl
end Go.Proofs.YtoknaaoioglapaaGreat

/- A segment made to fit a connection: on data. Conditions: lengths. -/
namespace Go.Proofs.YtoknaaoioglapaaGreat
open Go.RowKit
set_option linter.unusedVariables false
set_option linter.unusedSimpArgs false
set_option maxRecDepth 100000
set_option maxHeartbeats 4000000
def fit9 (a : Act) (len : Int) : List Int := [0, 0, 0, 0, a.n.tmod 50, -1, IntKind.i64.wrap (0 - len), 2047, 2048]
def fit6 (c : Cn) (a : Act) : List Int := [0, wdiff c.nx c.una, wdiff c.nx c.una, a.m.tmod 700, -1, IntKind.i64.wrap (wdiff c.nx c.una + 1)]
def fitS (c : Cn) (a : Act) : Sg :=
  bif a.fit && cnB c then { a.s with sp := c.pp, dp := c.port, seq := wadd c.inx ((fit9 a a.s.data.length).getD (bring a.n 9).toNat 0), ack := wadd c.una ((fit6 c a).getD (bring a.m 6).toNat 0) } else a.s
theorem fitS_data (c : Cn) (a : Act) : (fitS c a).data = a.s.data := by
  unfold fitS
  cases a.fit && cnB c <;> rfl
theorem dt_AhTcpFit_ROWF {p : Prop} (h : p := by first | ((first | rfl | exact bytes_cells _ | (refine RowsRen.one ?_; (repeat (refine Cells.cons ?_ ?_; focus (first | exact .val _ | exact Ren.gg rfl _ | fail))); exact Cells.nil)); done) | fail) : p := h
theorem fit_l (c : Cn) (a : Act) (hc : CnLen c) (ha : a.s.data.length ≤ 30000) : ACallL Tryz.prog 43 [.agg (cnR 0 c), .agg (acR 0 a)] [.perm] (.agg (sgG 1 (fitS c a))) [.perm, .uniq] := by
  have px := pl_bytes c.out
  have py := pl_parts c.parts
  have pz := pl_bytes a.s.data
  have pb := pl_bytes a.b
  have cC := copySeg_l a.s (by omega)
  have cB := refConn_l c hc
  have lo : (a.s.data.map bR).length = a.s.data.length := by simp
  unfold fitS
  obtain ⟨b, hb⟩ : ∃ r, cnB c = r := ⟨_, rfl⟩
  rw [hb] at cB ⊢
  dsimp only [cnR, cnL, acR, acL, sgR, sgG, sgL] at cC cB ⊢
  cases hf : a.fit with
  | false =>
    refine ACallL.of_ev mixed Tryz.func43 rfl (fun a w => Tryz.call43 a w) (congrArg Array.toList Tryz.results43) Tryz.ntmps43 fun B hB => ?_
    ((conv => whnf); (repeat' ((first | (with_reducible first | refine qif_n ?_ | refine qif_t ‹_› ?_ | refine qif_f ‹_› ?_) | ((with_reducible refine qif_t ?_ ?_); focus decide) | ((with_reducible refine qif_f ?_ ?_); focus decide) | (with_reducible refine And.intro (orderOk_i ?ho) ?_; (case ho => kernel_rfl)) | (with_reducible first | refine qif_i (fun _ => ?_) (fun _ => ?_) | refine frcVs_i ?_ | refine frcRs_i ?_) | ((with_reducible refine qCall.pure (cB) ?_ ?_ ?_ ?_); rotate_left 4; exact trivial; exact plT; exact plT) | (((with_reducible refine qCall.of (cC) [] [(0, 0)] [] [(1, 4)] [(4, .uniq)] (.agg (sgG 4 a.s)) ?hk ?_); (case hk => rfl); (conv => whnf); (repeat (refine And.intro ?_ ?_; exact sideT; (conv => whnf))); (fail_if_success (with_reducible first | refine And.intro (eqv_i ?_) ?_ | refine And.intro (ren_i ?_) ?_))))) <;> (conv => whnf))))
    all_goals ((refine qConv.of hB [] [(0, 0), (4, 1)] [] (by rfl) ?_; focus ((conv => whnf); (repeat (refine And.intro ?_ ?_; rotate_left; (conv => whnf))); exact trivial; all_goals (try exact andT))))
    all_goals (try exact dt_AhTcpFit_ROWF)
  | true =>
    cases b with
    | false =>
      refine ACallL.of_ev mixed Tryz.func43 rfl (fun a w => Tryz.call43 a w) (congrArg Array.toList Tryz.results43) Tryz.ntmps43 fun B hB => ?_
      ((conv => whnf); (repeat' ((first | (with_reducible first | refine qif_n ?_ | refine qif_t ‹_› ?_ | refine qif_f ‹_› ?_) | ((with_reducible refine qif_t ?_ ?_); focus decide) | ((with_reducible refine qif_f ?_ ?_); focus decide) | (with_reducible refine And.intro (orderOk_i ?ho) ?_; (case ho => kernel_rfl)) | (with_reducible first | refine qif_i (fun _ => ?_) (fun _ => ?_) | refine frcVs_i ?_ | refine frcRs_i ?_) | ((with_reducible refine qCall.pure (cB) ?_ ?_ ?_ ?_); rotate_left 4; exact trivial; exact plT; exact plT) | (((with_reducible refine qCall.of (cC) [] [(0, 0)] [] [(1, 4)] [(4, .uniq)] (.agg (sgG 4 a.s)) ?hk ?_); (case hk => rfl); (conv => whnf); (repeat (refine And.intro ?_ ?_; exact sideT; (conv => whnf))); (fail_if_success (with_reducible first | refine And.intro (eqv_i ?_) ?_ | refine And.intro (ren_i ?_) ?_))))) <;> (conv => whnf))))
      all_goals ((refine qConv.of hB [] [(0, 0), (4, 1)] [] (by rfl) ?_; focus ((conv => whnf); (repeat (refine And.intro ?_ ?_; rotate_left; (conv => whnf))); exact trivial; all_goals (try exact andT))))
      all_goals (try exact dt_AhTcpFit_ROWF)
    | true =>
      have b9 := bring_bd a.n 9 (by decide)
      have b6 := bring_bd a.m 6 (by decide)
      have c9 := bring_l a.n 9 (by decide) (by decide)
      have c6 := bring_l a.m 6 (by decide) (by decide)
      obtain ⟨j9, h9⟩ : ∃ j : Nat, bring a.n 9 = j := ⟨(bring a.n 9).toNat, by omega⟩
      obtain ⟨j6, h6⟩ : ∃ j : Nat, bring a.m 6 = j := ⟨(bring a.m 6).toNat, by omega⟩
      rw [h9] at c9 b9 ⊢
      rw [h6] at c6 b6 ⊢
      have e9 : 0 + (j9 : Int).toNat = j9 := by omega
      have e6 : 0 + (j6 : Int).toNat = j6 := by omega
      have r9 : (fit9 a a.s.data.length)[j9]? = some ((fit9 a a.s.data.length).getD (j9 : Int).toNat 0) := by
        have : j9 < (fit9 a a.s.data.length).length := by simp [fit9]; omega
        simp [List.getD, this]
      have r6 : (fit6 c a)[j6]? = some ((fit6 c a).getD (j6 : Int).toNat 0) := by
        have : j6 < (fit6 c a).length := by simp [fit6]; omega
        simp [List.getD, this]
      obtain ⟨v9, hv9⟩ : ∃ r, (fit9 a a.s.data.length).getD (j9 : Int).toNat 0 = r := ⟨_, rfl⟩
      obtain ⟨v6, hv6⟩ : ∃ r, (fit6 c a).getD (j6 : Int).toNat 0 = r := ⟨_, rfl⟩
      rw [hv9] at r9 ⊢
      rw [hv6] at r6 ⊢
      have s9 : ((fit9 a ((a.s.data.map bR).length : Int)).map iR)[j9]? = some (iR v9) := by rw [lo, List.getElem?_map, r9]; rfl
      have s6 : ((fit6 c a).map iR)[j6]? = some (iR v6) := by rw [List.getElem?_map, r6]; rfl
      unfold fit9 at s9
      unfold fit6 at s6
      simp only [List.map_cons, List.map_nil, iR] at s9 s6
      rw [Bool.true_and, cond_true]
      refine ACallL.of_ev mixed Tryz.func43 rfl (fun a w => Tryz.call43 a w) (congrArg Array.toList Tryz.results43) Tryz.ntmps43 fun B hB => ?_
      ((conv => whnf); (repeat' ((first | (with_reducible first | refine qif_n ?_ | refine qif_t ‹_› ?_ | refine qif_f ‹_› ?_) | ((with_reducible refine qif_t ?_ ?_); focus decide) | ((with_reducible refine qif_f ?_ ?_); focus decide) | (with_reducible refine And.intro (orderOk_i ?ho) ?_; (case ho => kernel_rfl)) | (with_reducible first | refine qif_i (fun _ => ?_) (fun _ => ?_) | refine frcVs_i ?_ | refine frcRs_i ?_) | ((with_reducible refine qCall.pure (cB) ?_ ?_ ?_ ?_); rotate_left 4; exact trivial; exact plT; exact plT) | ((with_reducible refine qCall.pure (refDiff_l _ _) ?_ ?_ ?_ ?_); rotate_left 4; exact trivial; exact plT; exact plT) | ((with_reducible refine qCall.pure (refAdd_l _ _) ?_ ?_ ?_ ?_); rotate_left 4; exact trivial; exact plT; exact plT) | ((with_reducible refine qCall.pure (c9) ?_ ?_ ?_ ?_); rotate_left 4; exact trivial; exact plT; exact plT) | ((with_reducible refine qCall.pure (c6) ?_ ?_ ?_ ?_); rotate_left 4; exact trivial; exact plT; exact plT) | (((with_reducible refine qCall.of (cC) [] [(0, 0)] [] [(1, 4)] [(4, .uniq)] (.agg (sgG 4 a.s)) ?hk ?_); (case hk => rfl); (conv => whnf); (repeat (refine And.intro ?_ ?_; exact sideT; (conv => whnf))); (fail_if_success (with_reducible first | refine And.intro (eqv_i ?_) ?_ | refine And.intro (ren_i ?_) ?_)))) | (refine qCase_i (remN rfl rfl rfl (by decide)) ?_) | (refine qCase_i (idxS rfl rfl rfl rfl rfl rfl rfl rfl (by omega)) ?_) | (refine qCase_i (ldR' rfl rfl rfl rfl rfl (by with_reducible exact e9) s9 rfl) ?_) | (refine qCase_i (ldR' rfl rfl rfl rfl rfl (by with_reducible exact e6) s6 rfl) ?_)) <;> (conv => whnf))))
      all_goals ((refine qConv.of hB [] [(0, 0), (4, 1)] [] (by rfl) ?_; focus ((conv => whnf); (repeat (refine And.intro ?_ ?_; rotate_left; (conv => whnf))); exact trivial; all_goals (try exact andT))))
      all_goals (try exact dt_AhTcpFit_ROWF)
end Go.Proofs.YtoknaaoioglapaaGreat

/- The page's steps of a connection on data: a segment is sent, it is shut. Conditions: lengths. -/
namespace Go.Proofs.YtoknaaoioglapaaGreat
open Go.RowKit
set_option linter.unusedVariables false
set_option linter.unusedSimpArgs false
set_option maxRecDepth 100000
set_option maxHeartbeats 4000000
abbrev rsN (o p d t s e : Nat) (x : Stp) : List AV := spL (bL o x.c.out) (.list p 2 (x.c.parts.map (prt d))) (.glist s 7 (x.out.map (sgR e))) (bL t x.told) x.c
abbrev rsO (row : List AV) : Own := .live ⟨18, 77, [row]⟩
theorem segs_ll {L I F : Prs} {h : Hp} {r r' : Nat} (h0 : I.has r r' = true) (l : List Sg) : RowsRen (qOf L I F) h (l.map (sgR r)) (l.map (sgR r')) :=
  RowsRen.mapF l _ _ fun m _ => .cons (.val _) (.cons (.val _) (.cons (.val _) (.cons (.val _) (.cons (.val _) (.cons (.val _) (.cons (Ren.ll h0 m.data) .nil))))))
theorem segs_gl {L I F : Prs} {h : Hp} {r r' : Nat} (h0 : I.has r r' = true) (l : List Sg) : RowsRen (qOf L I F) h (l.map (sgG r)) (l.map (sgR r')) :=
  RowsRen.mapF l _ _ fun m _ => .cons (.val _) (.cons (.val _) (.cons (.val _) (.cons (.val _) (.cons (.val _) (.cons (.val _) (.cons (Ren.g2 h0 m.data) .nil))))))
theorem Ren.sll {L I F : Prs} {h : Hp} {r r' d d' : Nat} (h0 : I.has r r' = true) (h1 : I.has d d' = true) (l : List Sg) : Ren (qOf L I F) h (.glist r 7 (l.map (sgR d))) (.glist r' 7 (l.map (sgR d'))) := by
  obtain ⟨a, b, c⟩ := segs_ll (L := L) (I := I) (F := F) (h := h) h1 l
  exact .glist _ _ _ _ _ ((Prs.has_iff I r r').1 h0) a b c
theorem Ren.sll1 {L I F : Prs} {h : Hp} {r r' d d' e : Nat} {row : List AV} {m : Sg} {l : List Sg} (h0 : I.has r r' = true) (h1 : I.has d d' = true) (hr : row = sgG e m) (h2 : I.has e d' = true) : Ren (qOf L I F) h (.glist r 7 (l.map (sgR d) ++ [row])) (.glist r' 7 ((l ++ [m]).map (sgR d'))) := by
  subst hr
  obtain ⟨a, b, c⟩ := (segs_ll (L := L) (I := I) (F := F) (h := h) h1 l).app (segs_gl (L := L) (I := I) (F := F) (h := h) h2 [m])
  rw [← List.map_append] at a b c
  exact .glist _ _ _ _ _ ((Prs.has_iff I r r').1 h0) a b c
theorem Ren.sllN {L I F : Prs} {h : Hp} {r r' d d' : Nat} {row : List AV} {m : Sg} {l : List Sg} (h0 : I.has r r' = true) (h1 : I.has d d' = true) (hd : m.data = []) (hr : row = sgL (.val (.slice none 0 0)) m) : Ren (qOf L I F) h (.glist r 7 (l.map (sgR d) ++ [row])) (.glist r' 7 ((l ++ [m]).map (sgR d'))) := by
  subst hr
  have e : RowsRen (qOf L I F) h [sgL (.val (.slice none 0 0)) m] ([m].map (sgR d')) := by
    refine RowsRen.one (.cons (.val _) (.cons (.val _) (.cons (.val _) (.cons (.val _) (.cons (.val _) (.cons (.val _) (.cons ?_ .nil)))))))
    rw [hd]
    exact .vnil _ _
  obtain ⟨a, b, c⟩ := (segs_ll (L := L) (I := I) (F := F) (h := h) h1 l).app e
  rw [← List.map_append] at a b c
  exact .glist _ _ _ _ _ ((Prs.has_iff I r r').1 h0) a b c
theorem Ren.pg2 {L I F : Prs} {h : Hp} {r r' d d' : Nat} (h0 : I.has r r' = true) (h1 : I.has d d' = true) (l : List Pt) : Ren (qOf L I F) h (.list r 2 (l.map (prg d))) (.list r' 2 (l.map (prt d'))) := by
  obtain ⟨a, b, c⟩ := parts_g2 (L := L) (I := I) (F := F) (h := h) h1 l
  exact .list _ _ _ _ _ ((Prs.has_iff I r r').1 h0) a b c
theorem dt_AhTcpR_ROWR {p : Prop} (h : p := by first | ((first | rfl | (refine RowsRen.one ?_; (repeat (refine Cells.cons ?_ ?_; focus (first | exact .val _ | exact Ren.ll rfl _ | exact Ren.gg rfl _ | exact Ren.g2 rfl _ | exact Ren.vnil _ _ | exact Ren.vgnil _ _ | exact Ren.sll rfl rfl _ | exact Ren.sllN rfl rfl rfl rfl | exact Ren.sll1 rfl rfl rfl rfl | exact Ren.pll rfl rfl _ | fail))); exact Cells.nil) | exact segs_ll rfl _ | exact parts_ll rfl _ | exact bytes_cells _); done) | fail) : p := h
theorem rseg_l (x : Stp) (seq fl : Int) (data : List Int) (hd : data.length ≤ 100000000) (hs : x.out.length ≤ 100000000) :
    ACallL Tryz.prog 69 [.ptr 1 0 0, .val (.int .i64 seq), .val (.int .i64 fl), bL 2 data] [.perm, rsO (rsN 2 3 4 5 6 7 x), .perm, .perm, .perm, .perm, .uniq, .uniq]
      (.tup []) [.perm, rsO (rsN 2 3 4 5 8 9 (x.seg seq fl data)), .perm, .perm, .perm, .perm, .dead, .dead, .uniq, .uniq] := by
  dsimp only [rsN, spL, Stp.seg] at hs ⊢
  refine ACallL.of_ev mixed Tryz.func69 rfl (fun a w => Tryz.call69 a w) (congrArg Array.toList Tryz.results69) Tryz.ntmps69 fun B hB => ?_
  ((conv => whnf); (repeat' ((first | (with_reducible first | refine qif_n ?_ | refine qif_t ‹_› ?_ | refine qif_f ‹_› ?_) | ((with_reducible refine qif_t ?_ ?_); focus decide) | ((with_reducible refine qif_f ?_ ?_); focus decide) | (with_reducible refine And.intro (orderOk_i ?ho) ?_; (case ho => kernel_rfl)) | (with_reducible first | refine qif_i (fun _ => ?_) (fun _ => ?_) | refine frcVs_i ?_ | refine frcRs_i ?_)) <;> (conv => whnf))))
  ((with_reducible refine qCall.fresh (fun r => gL r data) (copyBytes_l data hd) [(0, 2)] [] ?hk ?_); (case hk => rfl); (conv => whnf); (repeat (refine And.intro ?_ ?_; exact sideT; (conv => whnf))); (fail_if_success (with_reducible first | refine And.intro (eqv_i ?_) ?_ | refine And.intro (ren_i ?_) ?_)))
  ((conv => whnf); (repeat' ((first | (with_reducible first | refine qif_n ?_ | refine qif_t ‹_› ?_ | refine qif_f ‹_› ?_) | ((with_reducible refine qif_t ?_ ?_); focus decide) | ((with_reducible refine qif_f ?_ ?_); focus decide) | (with_reducible refine And.intro (orderOk_i ?ho) ?_; (case ho => kernel_rfl)) | (with_reducible first | refine qif_i (fun _ => ?_) (fun _ => ?_) | refine frcVs_i ?_ | refine frcRs_i ?_) | (refine qCase_i (apG (nb := 72) rfl rfl rfl rfl rfl rfl rfl rfl rfl rfl (by decide) rfl (by simp; omega)) ?_)) <;> (conv => whnf))))
  (refine qConv.of hB [(1, 1)] [(0, 0), (2, 2), (3, 3), (4, 4), (5, 5), (10, 8), (7, 9), (8, 9)] [] (by rfl) ?_; focus ((conv => whnf); (repeat (refine And.intro ?_ ?_; rotate_left; (conv => whnf))); exact trivial; all_goals (try exact andT)))
  all_goals (try exact dt_AhTcpR_ROWR)
theorem racks_l (x : Stp) (hs : x.out.length ≤ 100000000) :
    ACallL Tryz.prog 87 [.ptr 1 0 0] [.perm, rsO (rsN 2 3 4 5 6 7 x), .perm, .perm, .perm, .perm, .uniq, .uniq]
      (.tup []) [.perm, rsO (rsN 2 3 4 5 8 9 x.acks), .perm, .perm, .perm, .perm, .dead, .dead, .uniq, .uniq] := by
  have cS := rseg_l x x.c.nx 16 [] (by simp) hs
  have e : x.seg x.c.nx 16 [] = x.acks := rfl
  rw [e] at cS
  dsimp only [rsN, spL] at hs cS ⊢
  refine ACallL.of_ev mixed Tryz.func87 rfl (fun a w => Tryz.call87 a w) (congrArg Array.toList Tryz.results87) Tryz.ntmps87 fun B hB => ?_
  ((conv => whnf); (repeat' ((first | (with_reducible first | refine qif_n ?_ | refine qif_t ‹_› ?_ | refine qif_f ‹_› ?_) | ((with_reducible refine qif_t ?_ ?_); focus decide) | ((with_reducible refine qif_f ?_ ?_); focus decide) | (with_reducible refine And.intro (orderOk_i ?ho) ?_; (case ho => kernel_rfl)) | (with_reducible first | refine qif_i (fun _ => ?_) (fun _ => ?_) | refine frcVs_i ?_ | refine frcRs_i ?_)) <;> (conv => whnf))))
  ((with_reducible refine qCall.of (cS) [(1, 1)] [(0, 0), (2, 2), (3, 3), (4, 4), (5, 5), (6, 6), (7, 7)] [] [(8, 8), (9, 9)] [(1, rsO (rsN 2 3 4 5 8 9 x.acks)), (6, .dead), (7, .dead), (8, .uniq), (9, .uniq)] (.tup []) ?hk ?_); (case hk => rfl); (conv => whnf); (repeat (refine And.intro ?_ ?_; exact sideT; (conv => whnf))); (fail_if_success (with_reducible first | refine And.intro (eqv_i ?_) ?_ | refine And.intro (ren_i ?_) ?_)))
  ((conv => whnf); (repeat' ((first | (with_reducible first | refine qif_n ?_ | refine qif_t ‹_› ?_ | refine qif_f ‹_› ?_) | ((with_reducible refine qif_t ?_ ?_); focus decide) | ((with_reducible refine qif_f ?_ ?_); focus decide) | (with_reducible refine And.intro (orderOk_i ?ho) ?_; (case ho => kernel_rfl)) | (with_reducible first | refine qif_i (fun _ => ?_) (fun _ => ?_) | refine frcVs_i ?_ | refine frcRs_i ?_)) <;> (conv => whnf))))
  (refine qConv.of hB [(1, 1)] [(0, 0), (2, 2), (3, 3), (4, 4), (5, 5), (8, 8), (9, 9)] [] (by rfl) ?_; focus ((conv => whnf); (repeat (refine And.intro ?_ ?_; rotate_left; (conv => whnf))); exact trivial; all_goals (try exact andT)))
  all_goals (try exact dt_AhTcpR_ROWR)
theorem rshut_l (x : Stp) :
    ACallL Tryz.prog 70 [.ptr 1 0 0] [.perm, rsO (rsN 2 3 4 5 6 7 x), .perm, .perm, .perm, .perm, .perm, .perm]
      (.tup []) [.perm, rsO (rsN 2 3 4 5 6 7 x.shut), .perm, .perm, .perm, .perm, .perm, .perm] := by
  dsimp only [rsN, spL]
  refine ACallL.of_ev mixed Tryz.func70 rfl (fun a w => Tryz.call70 a w) (congrArg Array.toList Tryz.results70) Tryz.ntmps70 fun B hB => ?_
  ((conv => whnf); (repeat' ((first | (with_reducible first | refine qif_n ?_ | refine qif_t ‹_› ?_ | refine qif_f ‹_› ?_) | ((with_reducible refine qif_t ?_ ?_); focus decide) | ((with_reducible refine qif_f ?_ ?_); focus decide) | (with_reducible refine And.intro (orderOk_i ?ho) ?_; (case ho => kernel_rfl)) | (with_reducible first | refine qif_i (fun _ => ?_) (fun _ => ?_) | refine frcVs_i ?_ | refine frcRs_i ?_)) <;> (conv => whnf))))
  (refine qConv.of hB [(1, 1)] [(0, 0), (2, 2), (3, 3), (4, 4), (5, 5), (6, 6), (7, 7)] [] (by rfl) ?_; focus ((conv => whnf); (repeat (refine And.intro ?_ ?_; rotate_left; (conv => whnf))); exact trivial; all_goals (try exact andT)))
  all_goals (try exact dt_AhTcpR_ROWR)
theorem begin_l (c : Cn) (hc : CnLen c) : ACallL Tryz.prog 63 [.agg (cnR 0 c)] [.perm] (.ptr 1 0 0) [.perm, rsO (rsN 2 3 4 5 6 7 c.start), .uniq, .uniq, .uniq, .uniq, .uniq, .uniq] := by
  have cO := copyConn_l c hc
  unfold Cn.start
  dsimp only [cnR, cnL, cnG, rsN, spL] at cO ⊢
  refine ACallL.of_ev mixed Tryz.func63 rfl (fun a w => Tryz.call63 a w) (congrArg Array.toList Tryz.results63) Tryz.ntmps63 fun B hB => ?_
  ((conv => whnf); (repeat' ((first | (with_reducible first | refine qif_n ?_ | refine qif_t ‹_› ?_ | refine qif_f ‹_› ?_) | ((with_reducible refine qif_t ?_ ?_); focus decide) | ((with_reducible refine qif_f ?_ ?_); focus decide) | (with_reducible refine And.intro (orderOk_i ?ho) ?_; (case ho => kernel_rfl)) | (with_reducible first | refine qif_i (fun _ => ?_) (fun _ => ?_) | refine frcVs_i ?_ | refine frcRs_i ?_)) <;> (conv => whnf))))
  ((with_reducible refine qCall.of (cO) [] [(0, 0)] [] [(1, 2), (2, 3), (3, 4)] [(2, .uniq), (3, .uniq), (4, .uniq)] (.agg (cnG 2 3 4 c)) ?hk ?_); (case hk => rfl); (conv => whnf); (repeat (refine And.intro ?_ ?_; exact sideT; (conv => whnf))); (fail_if_success (with_reducible first | refine And.intro (eqv_i ?_) ?_ | refine And.intro (ren_i ?_) ?_)))
  ((conv => whnf); (repeat' ((first | (with_reducible first | refine qif_n ?_ | refine qif_t ‹_› ?_ | refine qif_f ‹_› ?_) | ((with_reducible refine qif_t ?_ ?_); focus decide) | ((with_reducible refine qif_f ?_ ?_); focus decide) | (with_reducible refine And.intro (orderOk_i ?ho) ?_; (case ho => kernel_rfl)) | (with_reducible first | refine qif_i (fun _ => ?_) (fun _ => ?_) | refine frcVs_i ?_ | refine frcRs_i ?_)) <;> (conv => whnf))))
  (refine qConv.of hB [(5, 1)] [(0, 0), (2, 2), (3, 3), (4, 4)] [] (by rfl) ?_; focus ((conv => whnf); (repeat (refine And.intro ?_ ?_; rotate_left; (conv => whnf))); exact trivial; all_goals (try exact andT)))
  all_goals (try (first | rfl | (refine RowsRen.one ?_; (repeat (refine Cells.cons ?_ ?_; focus (first | exact .val _ | exact Ren.g2 rfl _ | exact Ren.pg2 rfl rfl _ | exact Ren.vnil _ _ | exact Ren.vgnil _ _ | fail))); exact Cells.nil)))
end Go.Proofs.YtoknaaoioglapaaGreat

/- The page's connection takes an acknowledgement: on data. Conditions: bounds. -/
namespace Go.Proofs.YtoknaaoioglapaaGreat
open Go.RowKit
set_option linter.unusedVariables false
set_option linter.unusedSimpArgs false
set_option maxRecDepth 100000
set_option maxHeartbeats 1000000
theorem dt_AhTcpT_ROWR {p : Prop} (h : p := by first | ((first | rfl | (refine RowsRen.one ?_; (repeat (refine Cells.cons ?_ ?_; focus (first | exact .val _ | exact Ren.ll rfl _ | exact Ren.gg rfl _ | exact Ren.g2 rfl _ | exact Ren.vnil _ _ | exact Ren.vgnil _ _ | exact Ren.sll rfl rfl _ | exact Ren.sllN rfl rfl rfl rfl | exact Ren.sll1 rfl rfl rfl rfl | exact Ren.pll rfl rfl _ | fail))); exact Cells.nil) | exact segs_ll rfl _ | exact parts_ll rfl _ | exact bytes_cells _); done) | fail) : p := h
abbrev ackX (x : Stp) (ys : List Int) (m : Sg) : Stp := { x with c := { x.c with out := ys, una := m.ack, tm := tm0 } }
theorem rack_l (x : Stp) (m : Sg) (hs : x.out.length ≤ 1000000) (ho : x.c.out.length ≤ 8192) (hm : m.data.length ≤ 1460) :
    ACallL Tryz.prog 88 [.ptr 1 0 0, .agg (sgR 0 m)] [.perm, rsO (rsN 2 3 4 5 6 7 x), .uniq, .perm, .perm, .perm, .uniq, .uniq]
      (.val (.bool (x.ack m).2)) [.perm, rsO (rsN 10 3 4 5 8 9 (x.ack m).1), .dead, .perm, .perm, .perm, .dead, .dead, .uniq, .uniq, .uniq] := by
  have px := pl_bytes m.data
  have lo : (x.c.out.map bR).length = x.c.out.length := by simp
  have cS := racks_l x (by omega)
  have hw := wdiff_bd m.ack x.c.una
  unfold Stp.ack
  by_cases hd : wdiff m.ack x.c.una ≤ 0
  · have hd1 : decide (wdiff m.ack x.c.una ≤ 0) = true := by simpa using hd
    have hd2 : decide (0 < wdiff m.ack x.c.una) = false := by simpa using hd
    dsimp only [rsN, spL, sgR, sgL] at cS ⊢
    refine ACallL.of_ev mixed Tryz.func88 rfl (fun a w => Tryz.call88 a w) (congrArg Array.toList Tryz.results88) Tryz.ntmps88 fun B hB => ?_
    ((conv => whnf); (repeat' ((first | (with_reducible first | refine qif_n ?_ | refine qif_t ‹_› ?_ | refine qif_f ‹_› ?_) | ((with_reducible refine qif_t ?_ ?_); focus decide) | ((with_reducible refine qif_f ?_ ?_); focus decide) | (with_reducible refine And.intro (orderOk_i ?ho) ?_; (case ho => kernel_rfl)) | (with_reducible first | refine qif_i (fun _ => ?_) (fun _ => ?_) | refine frcVs_i ?_ | refine frcRs_i ?_) | ((with_reducible refine qCall.pure (refDiff_l _ _) ?_ ?_ ?_ ?_); rotate_left 4; exact trivial; exact plT; exact plT) | (((with_reducible refine qCall.of (cS) [(1, 1)] [(0, 0), (2, 2), (3, 3), (4, 4), (5, 5), (6, 6), (7, 7)] [] [(8, 9), (9, 10)] [(1, rsO (rsN 2 3 4 5 9 10 x.acks)), (6, .dead), (7, .dead), (9, .uniq), (10, .uniq)] (.tup []) ?hk ?_); (case hk => rfl); (conv => whnf); (repeat (refine And.intro ?_ ?_; exact sideT; (conv => whnf))); (fail_if_success (with_reducible first | refine And.intro (eqv_i ?_) ?_ | refine And.intro (ren_i ?_) ?_)))) | (refine qCase_i (apG (nb := 72) rfl rfl rfl rfl rfl rfl rfl rfl rfl rfl (by decide) rfl (by simp; omega)) ?_)) <;> (conv => whnf))))
    all_goals as_aux_lemma =>
      (try simp only [bne, Bool.not_eq_true', Bool.not_eq_false'] at *)
      (simp only [*, cond_true, cond_false, Bool.and_true, Bool.true_and, Bool.and_false, Bool.false_and])
      first | ((refine qConv.of hB [(1, 1)] [(0, 0), (3, 3), (4, 4), (5, 5), (10, 8), (7, 9), (2, 10)] [] (by rfl) ?_; focus ((conv => whnf); (repeat (refine And.intro ?_ ?_; rotate_left; (conv => whnf))); exact trivial; all_goals (try exact andT)))) | ((refine qConv.of hB [(1, 1)] [(0, 0), (3, 3), (4, 4), (5, 5), (6, 8), (7, 9), (9, 10)] [] (by rfl) ?_; focus ((conv => whnf); (repeat (refine And.intro ?_ ?_; rotate_left; (conv => whnf))); exact trivial; all_goals (try exact andT)))) | ((refine qConv.of hB [(1, 1)] [(0, 0), (3, 3), (4, 4), (5, 5), (6, 8), (7, 9), (2, 10)] [] (by rfl) ?_; focus ((conv => whnf); (repeat (refine And.intro ?_ ?_; rotate_left; (conv => whnf))); exact trivial; all_goals (try exact andT)))) | ((refine qConv.of hB [(1, 1)] [(0, 0), (3, 3), (4, 4), (5, 5), (9, 8), (10, 9), (2, 10)] [] (by rfl) ?_; focus ((conv => whnf); (repeat (refine And.intro ?_ ?_; rotate_left; (conv => whnf))); exact trivial; all_goals (try exact andT))))
      all_goals (try exact dt_AhTcpT_ROWR)
  · have hd1 : decide (wdiff m.ack x.c.una ≤ 0) = false := by simpa using hd
    have hd2 : decide (0 < wdiff m.ack x.c.una) = true := by simp; omega
    obtain ⟨ys, hys⟩ : ∃ ys, x.c.out.drop (min (wdiff m.ack x.c.una) x.c.out.length).toNat = ys := ⟨_, rfl⟩
    have hyl : ys.length ≤ 8192 := by rw [← hys]; simp; omega
    have hcb : 0 ≤ (some (min (wdiff m.ack x.c.una) ((x.c.out.map bR).length : Int))).getD 0 ∧ (some (min (wdiff m.ack x.c.una) ((x.c.out.map bR).length : Int))).getD 0 ≤ (none : Option Int).getD ((x.c.out.map bR).length : Int) ∧ (none : Option Int).getD ((x.c.out.map bR).length : Int) ≤ (none : Option Int).getD ((x.c.out.map bR).length : Int) ∧ (none : Option Int).getD ((x.c.out.map bR).length : Int) ≤ ((x.c.out.map bR).length : Int) ∧ ((none : Option Int) = none ∨ (none : Option Int) ≠ none) := by
      simp only [Option.getD_some, Option.getD_none]
      exact ⟨by omega, by omega, by omega, by omega, .inl trivial⟩
    have hsl : ((x.c.out.map bR).drop ((some (min (wdiff m.ack x.c.una) ((x.c.out.map bR).length : Int))).getD 0).toNat).take ((none : Option Int).getD ((x.c.out.map bR).length : Int) - (some (min (wdiff m.ack x.c.una) ((x.c.out.map bR).length : Int))).getD 0).toNat = ys.map bR := by
      simp only [Option.getD_some, Option.getD_none]
      rw [← hys, lo, List.map_drop]
      exact List.take_of_length_le (by simp; omega)
    have hac : x.c.ackC m = { x.c with win := m.win, out := ys, una := m.ack, tm := tm0 } := by unfold Cn.ackC; rw [hys]
    have cY := copyBytes_l ys (by omega)
    have cC := rshut_l (ackX x ys m)
    rw [hac]
    dsimp only [rsN, spL, sgR, sgL] at cS cC ⊢
    refine ACallL.of_ev mixed Tryz.func88 rfl (fun a w => Tryz.call88 a w) (congrArg Array.toList Tryz.results88) Tryz.ntmps88 fun B hB => ?_
    ((conv => whnf); (repeat' ((first | (with_reducible first | refine qif_n ?_ | refine qif_t ‹_› ?_ | refine qif_f ‹_› ?_) | ((with_reducible refine qif_t ?_ ?_); focus decide) | ((with_reducible refine qif_f ?_ ?_); focus decide) | (with_reducible refine And.intro (orderOk_i ?ho) ?_; (case ho => kernel_rfl)) | (with_reducible first | refine qif_i (fun _ => ?_) (fun _ => ?_) | refine frcVs_i ?_ | refine frcRs_i ?_) | ((with_reducible refine qCall.pure (refDiff_l _ _) ?_ ?_ ?_ ?_); rotate_left 4; exact trivial; exact plT; exact plT) | ((with_reducible refine qCall.pure (refFinOut_l _) ?_ ?_ ?_ ?_); rotate_left 4; exact trivial; exact plT; exact plT) | ((with_reducible refine qCall.pure (trefStart_l _) ?_ ?_ ?_ ?_); rotate_left 4; exact trivial; exact plT; exact plT) | (refine qCall.rsent rfl ?_) | (refine qCase_i (slL' rfl rfl rfl rfl rfl rfl rfl rfl hcb hsl) ?_) | (((with_reducible refine qCall.fresh (fun r => gL r ys) (cY) [(0, 2)] [] ?hk ?_); (case hk => rfl); (conv => whnf); (repeat (refine And.intro ?_ ?_; exact sideT; (conv => whnf))); (fail_if_success (with_reducible first | refine And.intro (eqv_i ?_) ?_ | refine And.intro (ren_i ?_) ?_)))) | (((with_reducible refine qCall.of (cS) [(1, 1)] [(0, 0), (2, 2), (3, 3), (4, 4), (5, 5), (6, 6), (7, 7)] [] [(8, 9), (9, 10)] [(1, rsO (rsN 2 3 4 5 9 10 x.acks)), (6, .dead), (7, .dead), (9, .uniq), (10, .uniq)] (.tup []) ?hk ?_); (case hk => rfl); (conv => whnf); (repeat (refine And.intro ?_ ?_; exact sideT; (conv => whnf))); (fail_if_success (with_reducible first | refine And.intro (eqv_i ?_) ?_ | refine And.intro (ren_i ?_) ?_)))) | (((with_reducible refine qCall.of (cC) [(1, 1)] [(0, 0), (2, 9), (3, 3), (4, 4), (5, 5), (6, 6), (7, 7)] [] [] [(1, rsO (rsN 9 3 4 5 6 7 (ackX x ys m).shut))] (.tup []) ?hk ?_); (case hk => rfl); (conv => whnf); (repeat (refine And.intro ?_ ?_; exact sideT; (conv => whnf))); (fail_if_success (with_reducible first | refine And.intro (eqv_i ?_) ?_ | refine And.intro (ren_i ?_) ?_)))) | (refine qCase_i (apG (nb := 72) rfl rfl rfl rfl rfl rfl rfl rfl rfl rfl (by decide) rfl (by simp; omega)) ?_)) <;> (conv => whnf))))
    all_goals as_aux_lemma =>
      (try simp only [bne, Bool.not_eq_true', Bool.not_eq_false'] at *)
      (simp only [*, cond_true, cond_false, Bool.and_true, Bool.true_and, Bool.and_false, Bool.false_and])
      first | ((refine qConv.of hB [(1, 1)] [(0, 0), (3, 3), (4, 4), (5, 5), (10, 8), (7, 9), (2, 10)] [] (by rfl) ?_; focus ((conv => whnf); (repeat (refine And.intro ?_ ?_; rotate_left; (conv => whnf))); exact trivial; all_goals (try exact andT)))) | ((refine qConv.of hB [(1, 1)] [(0, 0), (3, 3), (4, 4), (5, 5), (6, 8), (7, 9), (9, 10)] [] (by rfl) ?_; focus ((conv => whnf); (repeat (refine And.intro ?_ ?_; rotate_left; (conv => whnf))); exact trivial; all_goals (try exact andT)))) | ((refine qConv.of hB [(1, 1)] [(0, 0), (3, 3), (4, 4), (5, 5), (6, 8), (7, 9), (2, 10)] [] (by rfl) ?_; focus ((conv => whnf); (repeat (refine And.intro ?_ ?_; rotate_left; (conv => whnf))); exact trivial; all_goals (try exact andT)))) | ((refine qConv.of hB [(1, 1)] [(0, 0), (3, 3), (4, 4), (5, 5), (9, 8), (10, 9), (2, 10)] [] (by rfl) ?_; focus ((conv => whnf); (repeat (refine And.intro ?_ ?_; rotate_left; (conv => whnf))); exact trivial; all_goals (try exact andT))))
      all_goals (try exact dt_AhTcpT_ROWR)
theorem rReasm_l (n s : Int) (ps : List Pt) (xs : List Int) (hm : mayB n ps = true) (hs : 0 ≤ s ∧ s ≤ 4294967295) (hx : xs.length ≤ 65536) :
    ACallL Tryz.prog 89 [.agg [.val (.int .i64 n), .list 1 2 (ps.map (prt 2))], .val (.int .i64 s), bL 0 xs] [.perm, .uniq, .uniq]
      (.tup [.agg [.val (.int .i64 (reaS n ps s xs).1), .list 3 2 ((reaS n ps s xs).2.1.map (prt 4))], bL 5 (reaS n ps s xs).2.2]) [.perm, .dead, .dead, .uniq, .uniq, .uniq] := by
  have cR := reasm_l n s ps xs (ptsMay hm) hm hs hx _ rfl
  unfold reaS
  refine ACallL.of_q (fun a w => Tryz.call89 a w) fun B hB => ?_
  by_cases h8 : 8 < (runsT n (winS n ps s xs) (lead (winS n ps s xs)) 2048).length
  · rw [if_pos h8] at cR ⊢
    ((with_reducible refine qCall.of (cR) [] [(0, 0), (1, 1), (2, 2)] [] [(3, 3), (4, 4), (5, 5)] [(3, .uniq), (4, .uniq), (5, .uniq)] (.tup [.agg [.val (.int .i64 n), .list 1 2 (ps.map (prt 2))], .val (.slice none 0 0)]) ?hk ?_); (case hk => rfl); (conv => whnf); (repeat (refine And.intro ?_ ?_; exact sideT; (conv => whnf))); (fail_if_success (with_reducible first | refine And.intro (eqv_i ?_) ?_ | refine And.intro (ren_i ?_) ?_)))
    (refine qConv.of hB [] [(0, 0), (1, 3), (2, 4)] [] (by rfl) ?_; focus ((conv => whnf); (repeat (refine And.intro ?_ ?_; rotate_left; (conv => whnf))); exact trivial; all_goals (try exact andT)))
    all_goals first | rfl | exact parts_ll rfl _
  · rw [if_neg h8] at cR ⊢
    obtain ⟨n2, hn2⟩ : ∃ a, wadd n (lead (winS n ps s xs)) = a := ⟨_, rfl⟩
    obtain ⟨ps2, hps2⟩ : ∃ a, runsT n (winS n ps s xs) (lead (winS n ps s xs)) 2048 = a := ⟨_, rfl⟩
    obtain ⟨t2, ht2⟩ : ∃ a, seg (winS n ps s xs) 0 (lead (winS n ps s xs)) = a := ⟨_, rfl⟩
    rw [hn2, hps2, ht2] at cR
    rw [hn2, hps2, ht2]
    ((with_reducible refine qCall.of (cR) [] [(0, 0), (1, 1), (2, 2)] [] [(3, 3), (4, 4), (5, 5)] [(3, .uniq), (4, .uniq), (5, .uniq)] (.tup [.agg [.val (.int .i64 n2), .list 3 2 (ps2.map (prt 4))], gL 5 t2]) ?hk ?_); (case hk => rfl); (conv => whnf); (repeat (refine And.intro ?_ ?_; exact sideT; (conv => whnf))); (fail_if_success (with_reducible first | refine And.intro (eqv_i ?_) ?_ | refine And.intro (ren_i ?_) ?_)))
    (refine qConv.of hB [] [(0, 0), (3, 3), (4, 4), (5, 5)] [] (by rfl) ?_; focus ((conv => whnf); (repeat (refine And.intro ?_ ?_; rotate_left; (conv => whnf))); exact trivial; all_goals (try exact andT)))
    all_goals first | rfl | exact parts_ll rfl _ | exact bytes_cells _
end Go.Proofs.YtoknaaoioglapaaGreat

/- Contracts and plain laws, one behind the other: AhTcpO, AhTcpQ, TcpL3, AhTcpZ, Arg16, HostM, HostL, HostL2, HostL3, AhiCut, AhHo, AhTcpR, AhHo2. Conditions are said at each. -/
import Derived.Test.YtceohcbokbalhaaGreatAhTcpK
import Derived.Test.YtceohcbokbalhaaGreatPkAG
import Derived.Test.YtceohcbokbalhaaGreatPkAI
import Derived.Test.YtceohcbokbalhaaGreatPkAF
import Derived.Test.YtceohcbokbalhaaGreatAhRef
/- A connection is opened: on data. No condition but lengths. -/
namespace Go.Proofs.YtceohcbokbalhaaGreat
open Go.RowKit
set_option linter.unusedVariables false
set_option linter.unusedSimpArgs false
set_option maxRecDepth 100000
set_option maxHeartbeats 4000000
theorem fl_22 : ∀ n : Fin 64, (bits .and .i64 ((n.val : Nat) : Int) 22 == 2) = (!(bits .and .i64 ((n.val : Nat) : Int) 2 == 0) && (bits .and .i64 ((n.val : Nat) : Int) 20 == 0)) := by decide +kernel
theorem fl_open {fl : Int} (h : 0 ≤ fl ∧ fl ≤ 63) : (bits .and .i64 fl 22 == 2) = (!flN fl 2 && flN fl 20) := by
  have := fl_22 ⟨fl.toNat, by omega⟩
  rw [show ((fl.toNat : Nat) : Int) = fl by omega] at this
  exact this
theorem sgB_fl {m : Sg} (h : sgB m = true) : 0 ≤ m.fl ∧ m.fl ≤ 63 := (sgB_t h).2.2.2.2.1
theorem Ren.fzS {L I F : Prs} {h : Hp} {b r d d' : Nat} {e : TypeId} {m : Sg} (h0 : F.has b r = true) (hb : h b = .live ⟨7, e, [sgG d m]⟩) (h1 : I.has d d' = true) : Ren (qOf L I F) h (.sl b 0 1) (.glist r 7 ([m].map (sgG d'))) := by
  obtain ⟨x, y, z⟩ := segs_gg (L := L) (I := I) (F := F) (h := h) h1 [m]
  exact .frzg _ _ _ _ _ _ ((Prs.has_iff F b r).1 h0) hb x y z
theorem sendO_l (c : Cn) (seq fl : Int) : ACallL Tryz.prog 130 [.ptr 1 0 0, .val (.int .i64 seq), .val (.int .i64 fl), .val (.slice none 0 0)] [.perm, spO (spL (.val (.slice none 0 0)) (.val (.slice none 0 0)) (.val (.slice none 0 0)) (.val (.slice none 0 0)) c)]
    (.tup []) [.perm, spO (spL (.val (.slice none 0 0)) (.val (.slice none 0 0)) (.glist 2 7 ([(⟨c.port, c.pp, seq, c.inx, fl, 2048, []⟩ : Sg)].map (sgG 3))) (.val (.slice none 0 0)) c), .uniq, .uniq] := by
  have cC := clone_l [] (by decide)
  dsimp only [spL]
  refine ACallL.of_ev mixed Tryz.func130 rfl (fun a w => Tryz.call130 a w) (congrArg Array.toList Tryz.results130) Tryz.ntmps130 fun B hB => ?_
  ((conv => whnf); (repeat' ((first | (with_reducible first | refine qif_n ?_ | refine qif_t ‹_› ?_ | refine qif_f ‹_› ?_) | ((with_reducible refine qif_t ?_ ?_); focus decide) | ((with_reducible refine qif_f ?_ ?_); focus decide) | (with_reducible refine And.intro (orderOk_i ?ho) ?_; (case ho => kernel_rfl)) | (with_reducible first | refine qif_i (fun _ => ?_) (fun _ => ?_) | refine frcVs_i ?_ | refine frcRs_i ?_)) <;> (conv => whnf))))
  ((with_reducible refine qCall.fresh (fun r => gL r []) (cC) [(0, 0)] [] ?hk ?_); (case hk => rfl); (conv => whnf); (repeat (refine And.intro ?_ ?_; exact sideT; (conv => whnf))); (fail_if_success (with_reducible first | refine And.intro (eqv_i ?_) ?_ | refine And.intro (ren_i ?_) ?_)))
  ((conv => whnf); (repeat' ((first | (with_reducible first | refine qif_n ?_ | refine qif_t ‹_› ?_ | refine qif_f ‹_› ?_) | ((with_reducible refine qif_t ?_ ?_); focus decide) | ((with_reducible refine qif_f ?_ ?_); focus decide) | (with_reducible refine And.intro (orderOk_i ?ho) ?_; (case ho => kernel_rfl)) | (with_reducible first | refine qif_i (fun _ => ?_) (fun _ => ?_) | refine frcVs_i ?_ | refine frcRs_i ?_)) <;> (conv => whnf))))
  (refine qConv.of hB [(1, 1)] [(0, 0), (2, 3)] [(4, 2)] (by rfl) ?_; focus ((conv => whnf); (repeat (refine And.intro ?_ ?_; rotate_left; (conv => whnf))); exact trivial; all_goals (try exact andT)))
  all_goals (try (refine RowsRen.one ?_; (repeat (refine Cells.cons ?_ ?_; focus (first | exact .val _ | exact Ren.fzS rfl rfl rfl | fail))); exact Cells.nil))
theorem doneO_l (c : Cn) (l : List Sg) : ACallL Tryz.prog 95 [.ptr 1 0 0] [.perm, spO (spL (.val (.slice none 0 0)) (.val (.slice none 0 0)) (.glist 2 7 (l.map (sgG 3))) (.val (.slice none 0 0)) c), .perm, .perm]
    (.tup [.agg (cnL (.val (.slice none 0 0)) (.val (.slice none 0 0)) c), .glist 2 7 (l.map (sgG 3)), .val (.int .i64 0)]) [.perm, spO (spL (.val (.slice none 0 0)) (.val (.slice none 0 0)) (.glist 2 7 (l.map (sgG 3))) (.val (.slice none 0 0)) c), .perm, .perm] := by
  dsimp only [spL, cnL]
  refine ACallL.of_ev mixed Tryz.func95 rfl (fun a w => Tryz.call95 a w) (congrArg Array.toList Tryz.results95) Tryz.ntmps95 fun B hB => ?_
  ((conv => whnf); (repeat' ((first | (with_reducible first | refine qif_n ?_ | refine qif_t ‹_› ?_ | refine qif_f ‹_› ?_) | ((with_reducible refine qif_t ?_ ?_); focus decide) | ((with_reducible refine qif_f ?_ ?_); focus decide) | (with_reducible refine And.intro (orderOk_i ?ho) ?_; (case ho => kernel_rfl)) | (with_reducible first | refine qif_i (fun _ => ?_) (fun _ => ?_) | refine frcVs_i ?_ | refine frcRs_i ?_)) <;> (conv => whnf))))
  (refine qConv.of hB [(1, 1)] [(0, 0), (2, 2), (3, 3)] [] (by rfl) ?_; focus ((conv => whnf); (repeat (refine And.intro ?_ ?_; rotate_left; (conv => whnf))); exact trivial; all_goals (try exact andT)))
  all_goals (try (first | exact segs_gg rfl _ | (refine RowsRen.one ?_; (repeat (refine Cells.cons ?_ ?_; focus (first | exact .val _ | exact Ren.sgs rfl rfl _ | fail))); exact Cells.nil)))
theorem tcpOpen_l (link ip iss : Int) (m : Sg) (h : openB link ip iss m = true) : ACallL Tryz.prog 115 [.val (.int .i64 link), .val (.int .i64 ip), .val (.int .i64 iss), .agg (sgR 0 m)] [.perm]
    (.tup [.agg (cnL (.val (.slice none 0 0)) (.val (.slice none 0 0)) (opens link ip iss m).c), .glist 1 7 ((opens link ip iss m).out.map (sgG 2)), .val (.int .i64 0)]) [.perm, .uniq, .uniq] := by
  have pz := pl_bytes m.data
  have cS := segMay_l m
  unfold openB at h
  simp only [Bool.and_eq_true] at h
  obtain ⟨h1, h2, h3, h4, h5⟩ := h
  have h6 : (bits .and .i64 m.fl 22 != 2) = false := by
    have := fl_open (sgB_fl h4)
    rw [h5.2, Bool.and_true, h5.1] at this
    simpa using this
  have h7 : decide (link < 0) = false := by simp only [within, decide_eq_true_eq] at h1; simp; omega
  have h8 : decide (1099511627776 < link) = false := by simp only [within, decide_eq_true_eq] at h1; simp; omega
  rw [h4] at cS
  unfold opens Stp.seg Cn.start
  obtain ⟨c, hc⟩ : ∃ c : Cn, c = ⟨link, ip, m.sp, m.dp, 1, iss, wadd iss 1, m.win, [], wadd m.seq 1, [], false, tmNew 3⟩ := ⟨_, rfl⟩
  have cW := sendO_l c iss 18
  have cD := doneO_l c [⟨c.port, c.pp, iss, c.inx, 18, 2048, []⟩]
  subst hc
  dsimp only [sgR, sgL, spL, cnL, tmNew] at cS cW cD ⊢
  refine ACallL.of_ev mixed Tryz.func115 rfl (fun a w => Tryz.call115 a w) (congrArg Array.toList Tryz.results115) Tryz.ntmps115 fun B hB => ?_
  ((conv => whnf); (repeat' ((first | (with_reducible first | refine qif_n ?_ | refine qif_t ‹_› ?_ | refine qif_f ‹_› ?_) | ((with_reducible refine qif_t ?_ ?_); focus decide) | ((with_reducible refine qif_f ?_ ?_); focus decide) | (with_reducible refine And.intro (orderOk_i ?ho) ?_; (case ho => kernel_rfl)) | (with_reducible first | refine qif_i (fun _ => ?_) (fun _ => ?_) | refine frcVs_i ?_ | refine frcRs_i ?_) | ((with_reducible refine qCall.pure (segIP_l _) ?_ ?_ ?_ ?_); rotate_left 4; exact trivial; exact plT; exact plT) | ((with_reducible refine qCall.pure (spanIs_l _) ?_ ?_ ?_ ?_); rotate_left 4; exact trivial; exact plT; exact plT) | ((with_reducible refine qCall.pure (cS) ?_ ?_ ?_ ?_); rotate_left 4; exact trivial; exact plT; exact plT) | ((with_reducible refine qCall.pure (spanAdd_l _ _) ?_ ?_ ?_ ?_); rotate_left 4; exact trivial; exact plT; exact plT) | ((with_reducible refine qCall.pure (tnew_l _) ?_ ?_ ?_ ?_); rotate_left 4; exact trivial; exact plT; exact plT)) <;> (conv => whnf))))
  ((with_reducible refine qCall.of (cW) [(1, 3)] [(0, 0)] [] [(2, 4), (3, 5)] [(3, spO (spL (.val (.slice none 0 0)) (.val (.slice none 0 0)) (.glist 4 7 ([(⟨m.dp, m.sp, iss, wadd m.seq 1, 18, 2048, []⟩ : Sg)].map (sgG 5))) (.val (.slice none 0 0)) (⟨link, ip, m.sp, m.dp, 1, iss, wadd iss 1, m.win, [], wadd m.seq 1, [], false, tmNew 3⟩ : Cn))), (4, .uniq), (5, .uniq)] (.tup []) ?hk ?_); (case hk => rfl); (conv => whnf); (repeat (refine And.intro ?_ ?_; exact sideT; (conv => whnf))); (fail_if_success (with_reducible first | refine And.intro (eqv_i ?_) ?_ | refine And.intro (ren_i ?_) ?_)))
  ((conv => whnf); (repeat' ((first | (with_reducible first | refine qif_n ?_ | refine qif_t ‹_› ?_ | refine qif_f ‹_› ?_) | ((with_reducible refine qif_t ?_ ?_); focus decide) | ((with_reducible refine qif_f ?_ ?_); focus decide) | (with_reducible refine And.intro (orderOk_i ?ho) ?_; (case ho => kernel_rfl)) | (with_reducible first | refine qif_i (fun _ => ?_) (fun _ => ?_) | refine frcVs_i ?_ | refine frcRs_i ?_)) <;> (conv => whnf))))
  ((with_reducible refine qCall.of (cD) [(1, 3)] [(0, 0), (2, 4), (3, 5)] [] [] [(3, spO (spL (.val (.slice none 0 0)) (.val (.slice none 0 0)) (.glist 4 7 ([(⟨m.dp, m.sp, iss, wadd m.seq 1, 18, 2048, []⟩ : Sg)].map (sgG 5))) (.val (.slice none 0 0)) (⟨link, ip, m.sp, m.dp, 1, iss, wadd iss 1, m.win, [], wadd m.seq 1, [], false, tmNew 3⟩ : Cn)))] (.tup [.agg (cnL (.val (.slice none 0 0)) (.val (.slice none 0 0)) (⟨link, ip, m.sp, m.dp, 1, iss, wadd iss 1, m.win, [], wadd m.seq 1, [], false, tmNew 3⟩ : Cn)), .glist 4 7 ([(⟨m.dp, m.sp, iss, wadd m.seq 1, 18, 2048, []⟩ : Sg)].map (sgG 5)), .val (.int .i64 0)]) ?hk ?_); (case hk => rfl); (conv => whnf); (repeat (refine And.intro ?_ ?_; exact sideT; (conv => whnf))); (fail_if_success (with_reducible first | refine And.intro (eqv_i ?_) ?_ | refine And.intro (ren_i ?_) ?_)))
  ((conv => whnf); (repeat' ((first | (with_reducible first | refine qif_n ?_ | refine qif_t ‹_› ?_ | refine qif_f ‹_› ?_) | ((with_reducible refine qif_t ?_ ?_); focus decide) | ((with_reducible refine qif_f ?_ ?_); focus decide) | (with_reducible refine And.intro (orderOk_i ?ho) ?_; (case ho => kernel_rfl)) | (with_reducible first | refine qif_i (fun _ => ?_) (fun _ => ?_) | refine frcVs_i ?_ | refine frcRs_i ?_)) <;> (conv => whnf))))
  (refine qConv.of hB [] [(0, 0), (4, 1), (5, 2)] [] (by rfl) ?_; focus ((conv => whnf); (repeat (refine And.intro ?_ ?_; rotate_left; (conv => whnf))); exact trivial; all_goals (try exact andT)))
  all_goals (try (first | rfl | exact segs_gg rfl _))
end Go.Proofs.YtceohcbokbalhaaGreat

/- The statement wakes; how much a script weighs; what fits: on data. Conditions: lengths. -/
namespace Go.Proofs.YtceohcbokbalhaaGreat
open Go.RowKit
set_option linter.unusedVariables false
set_option linter.unusedSimpArgs false
set_option maxRecDepth 100000
set_option maxHeartbeats 4000000
theorem dt_AhTcpQ_ROWQ {p : Prop} (h : p := by first | ((first | rfl | (refine RowsRen.one ?_; (repeat (refine Cells.cons ?_ ?_; focus (first | exact .val _ | exact Ren.gg rfl _ | exact Ren.ll rfl _ | exact Ren.g2 rfl _ | exact Ren.vnil _ _ | exact Ren.vgnil _ _ | exact Ren.sgs rfl rfl _ | exact Ren.pgl rfl rfl _ | fail))); exact Cells.nil) | exact segs_gg rfl _ | exact parts_gg rfl _ | exact bytes_cells _); done) | fail) : p := h
theorem tcpOpenA_l (link ip iss : Int) (m : Sg) (h : openB link ip iss m = true) : ACallL Tryz.prog 115 [.val (.int .i64 link), .val (.int .i64 ip), .val (.int .i64 iss), .agg (sgR 0 m)] [.perm] (stA (opens link ip iss m)) stH := by
  have cO := tcpOpen_l link ip iss m h
  have e1 : (opens link ip iss m).c.out = [] := rfl
  have e2 : (opens link ip iss m).c.parts = [] := rfl
  obtain ⟨y, hy⟩ : ∃ r, opens link ip iss m = r := ⟨_, rfl⟩
  rw [hy] at cO e1 e2 ⊢
  have pz := pl_bytes m.data
  unfold stA
  dsimp only [sgR, sgL, cnL, cnG] at cO ⊢
  rw [e1, e2]
  refine ACallL.of_q (fun a w => Tryz.call115 a w) fun B hB => ?_
  ((with_reducible refine qCall.of (cO) [] [(0, 0)] [] [(1, 1), (2, 2)] [(1, .uniq), (2, .uniq)] (.tup [.agg (cnL (.val (.slice none 0 0)) (.val (.slice none 0 0)) y.c), .glist 1 7 (y.out.map (sgG 2)), .val (.int .i64 0)]) ?hk ?_); (case hk => rfl); (conv => whnf); (repeat (refine And.intro ?_ ?_; exact sideT; (conv => whnf))); (fail_if_success (with_reducible first | refine And.intro (eqv_i ?_) ?_ | refine And.intro (ren_i ?_) ?_)))
  (refine qConv.of hB [] [(0, 0), (1, 4), (2, 5)] [] (by rfl) ?_; focus ((conv => whnf); (repeat (refine And.intro ?_ ?_; rotate_left; (conv => whnf))); exact trivial; all_goals (try exact andT)))
  all_goals (try exact dt_AhTcpQ_ROWQ)
end Go.Proofs.YtceohcbokbalhaaGreat

/- What a step sends and tells may be; the connection's names stay: plain law. No condition but that it may be one. -/
namespace Go.Proofs.YtceohcbokbalhaaGreat
open Go.RowKit
set_option linter.unusedVariables false
set_option linter.unusedSimpArgs false
structure SegI (c : Cn) (m : Sg) : Prop where
  ok : sgB m = true
  sp : m.sp = c.port
  dp : m.dp = c.pp
  len : m.data.length ≤ 536
structure StI (c : Cn) (n : Nat) (y : Stp) : Prop where
  port : 0 ≤ c.port ∧ c.port ≤ 65535
  pp : 0 ≤ c.pp ∧ c.pp ≤ 65535
  e1 : y.c.link = c.link
  e2 : y.c.ip = c.ip
  e3 : y.c.pp = c.pp
  e4 : y.c.port = c.port
  inx : 0 ≤ y.c.inx ∧ y.c.inx ≤ 4294967295
  segs : ∀ m ∈ y.out, SegI c m
  cnt : y.out.length ≤ n
  told : y.told.length ≤ 2048
theorem CnF.inx {c : Cn} (h : CnF c) : 0 ≤ c.inx ∧ c.inx ≤ 4294967295 := (mayB_in h.may).1
theorem StI.start {c : Cn} (h : CnF c) : StI c 0 c.start := ⟨h.port, h.pp, rfl, rfl, rfl, rfl, h.inx, fun m hm => (by cases hm), Nat.le_refl _, by simp [Cn.start]⟩
theorem StI.start' {c c' : Cn} (h : CnF c) (e1 : c'.link = c.link) (e2 : c'.ip = c.ip) (e3 : c'.pp = c.pp) (e4 : c'.port = c.port) (e5 : c'.inx = c.inx) : StI c 0 c'.start := ⟨h.port, h.pp, e1, e2, e3, e4, by show 0 ≤ c'.inx ∧ c'.inx ≤ 4294967295; rw [e5]; exact h.inx, fun m hm => (by cases hm), Nat.le_refl _, by simp [Cn.start]⟩
theorem StI.le {c : Cn} {n k : Nat} {y : Stp} (h : StI c n y) (hk : n ≤ k) : StI c k y := ⟨h.port, h.pp, h.e1, h.e2, h.e3, h.e4, h.inx, h.segs, by have := h.cnt; omega, h.told⟩
theorem StI.put {c : Cn} {n : Nat} {y : Stp} (h : StI c n y) (c' : Cn) (e1 : c'.link = y.c.link) (e2 : c'.ip = y.c.ip) (e3 : c'.pp = y.c.pp) (e4 : c'.port = y.c.port) (e5 : 0 ≤ c'.inx ∧ c'.inx ≤ 4294967295) : StI c n { y with c := c' } :=
  ⟨h.port, h.pp, e1.trans h.e1, e2.trans h.e2, e3.trans h.e3, e4.trans h.e4, e5, h.segs, h.cnt, h.told⟩
theorem StI.more {c c' : Cn} {n : Nat} {y : Stp} (h : StI c n y) (m : Sg) (hm : SegI c m) (e1 : c'.link = y.c.link) (e2 : c'.ip = y.c.ip) (e3 : c'.pp = y.c.pp) (e4 : c'.port = y.c.port) (e5 : c'.inx = y.c.inx) : StI c (n + 1) { c := c', out := y.out ++ [m], told := y.told } :=
  ⟨h.port, h.pp, e1.trans h.e1, e2.trans h.e2, e3.trans h.e3, e4.trans h.e4, by show 0 ≤ c'.inx ∧ c'.inx ≤ 4294967295; rw [e5]; exact h.inx, fun x hx => by
    rcases List.mem_append.1 hx with hx | hx
    · exact h.segs x hx
    · rw [List.mem_singleton.1 hx]; exact hm, by have := h.cnt; simp; omega, h.told⟩
theorem StI.segI {c : Cn} {n : Nat} {y : Stp} (h : StI c n y) {seq ack fl win : Int} {data : List Int} (hq : 0 ≤ seq ∧ seq ≤ 4294967295) (ha : 0 ≤ ack ∧ ack ≤ 4294967295) (hf : 0 ≤ fl ∧ fl ≤ 63) (hw : 0 ≤ win ∧ win ≤ 65535) (hd : data.length ≤ 536) : SegI c ⟨y.c.port, y.c.pp, seq, ack, fl, win, data⟩ := by
  refine ⟨?_, h.e4, h.e3, hd⟩
  have := h.port
  have := h.pp
  simp only [sgB, within, Bool.and_eq_true, decide_eq_true_eq, h.e3, h.e4]
  refine ⟨by omega, by omega, by omega, by omega, by omega, by omega, by omega⟩
theorem StI.seg {c : Cn} {n : Nat} {y : Stp} (h : StI c n y) {seq fl : Int} {data : List Int} (hq : 0 ≤ seq ∧ seq ≤ 4294967295) (hf : 0 ≤ fl ∧ fl ≤ 63) (hd : data.length ≤ 536) : StI c (n + 1) (y.seg seq fl data) :=
  h.more _ (h.segI hq h.inx hf (by omega) hd) rfl rfl rfl rfl rfl
theorem StI.acks {c : Cn} {n : Nat} {y : Stp} (h : StI c n y) (hq : 0 ≤ y.c.nx ∧ y.c.nx ≤ 4294967295) : StI c (n + 1) y.acks := h.seg hq (by omega) (by simp)
theorem StI.shut {c : Cn} {n : Nat} {y : Stp} (h : StI c n y) : StI c n y.shut := h.put y.c.shut rfl rfl rfl rfl h.inx
theorem sgB_w {m : Sg} (h : sgB m = true) : (0 ≤ m.sp ∧ m.sp ≤ 65535) ∧ (0 ≤ m.dp ∧ m.dp ≤ 65535) ∧ (0 ≤ m.seq ∧ m.seq ≤ 4294967295) ∧ (0 ≤ m.ack ∧ m.ack ≤ 4294967295) ∧ (0 ≤ m.fl ∧ m.fl ≤ 63) ∧ (0 ≤ m.win ∧ m.win ≤ 65535) ∧ m.data.length ≤ 1460 := by
  simpa only [sgB, within, Bool.and_eq_true, decide_eq_true_eq] using h
theorem bif_p {α : Type} {p : α → Prop} {b : Bool} {x y : α} (h1 : b = true → p x) (h2 : b = false → p y) : p (bif b then x else y) := by cases b <;> simp [h1, h2]
theorem StI.ack {c : Cn} {n : Nat} {y : Stp} (h : StI c n y) {m : Sg} (hm : sgB m = true) (hq : 0 ≤ y.c.nx ∧ y.c.nx ≤ 4294967295) : StI c (n + 1) (y.ack m).1 := by
  obtain ⟨_, _, _, ha, _⟩ := sgB_w hm
  have hp : ∀ c' : Cn, c'.link = y.c.link → c'.ip = y.c.ip → c'.pp = y.c.pp → c'.port = y.c.port → c'.inx = y.c.inx → StI c (n + 1) ({ y with c := c' }) := fun c' a b d e f => (h.put c' a b d e (by rw [f]; exact h.inx)).le (by omega)
  unfold Stp.ack
  refine bif_p (p := fun r : Stp × Bool => StI c (n + 1) r.1) (fun _ => bif_p (p := fun r : Stp × Bool => StI c (n + 1) r.1) (fun _ => ?_) (fun _ => ?_)) (fun _ => bif_p (p := fun r : Stp × Bool => StI c (n + 1) r.1) (fun _ => ?_) (fun _ => bif_p (p := fun r : Stp × Bool => StI c (n + 1) r.1) (fun _ => ?_) (fun _ => bif_p (p := fun r : Stp × Bool => StI c (n + 1) r.1) (fun _ => bif_p (p := fun r : Stp × Bool => StI c (n + 1) r.1) (fun _ => ?_) (fun _ => bif_p (p := fun r : Stp × Bool => StI c (n + 1) r.1) (fun _ => ?_) (fun _ => bif_p (p := fun r : Stp × Bool => StI c (n + 1) r.1) (fun _ => ?_) (fun _ => ?_)))) (fun _ => ?_))))
  · exact hp _ rfl rfl rfl rfl rfl
  · exact h.more (c' := y.c) _ (h.segI ha (by omega) (by omega) (by omega) (by simp)) rfl rfl rfl rfl rfl
  · exact h.acks hq
  · exact hp _ rfl rfl rfl rfl rfl
  · exact hp _ rfl rfl rfl rfl rfl
  · exact hp _ rfl rfl rfl rfl rfl
  · exact hp _ rfl rfl rfl rfl rfl
  · exact hp _ rfl rfl rfl rfl rfl
  · exact hp _ rfl rfl rfl rfl rfl
theorem data_same (y : Stp) (m : Sg) : (y.data m).c.link = y.c.link ∧ (y.data m).c.ip = y.c.ip ∧ (y.data m).c.pp = y.c.pp ∧ (y.data m).c.port = y.c.port ∧ (y.data m).out = y.out ∧ (y.told.length ≤ 2048 → (y.data m).told.length ≤ 2048) := by
  unfold Stp.data
  refine bif_p (p := fun r : Stp => r.c.link = y.c.link ∧ r.c.ip = y.c.ip ∧ r.c.pp = y.c.pp ∧ r.c.port = y.c.port ∧ r.out = y.out ∧ (y.told.length ≤ 2048 → r.told.length ≤ 2048)) (fun _ => ?_) (fun _ => ⟨rfl, rfl, rfl, rfl, rfl, id⟩)
  have ht : (y.dataIn m).told.length ≤ 2048 := reaS_told _ _ _ _
  unfold Stp.dataFin
  have hp : ∀ r : Stp, r.c.link = y.c.link → r.c.ip = y.c.ip → r.c.pp = y.c.pp → r.c.port = y.c.port → r.out = y.out → r.told = (y.dataIn m).told → r.c.link = y.c.link ∧ r.c.ip = y.c.ip ∧ r.c.pp = y.c.pp ∧ r.c.port = y.c.port ∧ r.out = y.out ∧ (y.told.length ≤ 2048 → r.told.length ≤ 2048) :=
    fun r a b d e f g => ⟨a, b, d, e, f, fun _ => by rw [g]; exact ht⟩
  have h0 := hp (y.dataIn m) rfl rfl rfl rfl rfl rfl
  refine bif_p (p := fun r : Stp => r.c.link = y.c.link ∧ r.c.ip = y.c.ip ∧ r.c.pp = y.c.pp ∧ r.c.port = y.c.port ∧ r.out = y.out ∧ (y.told.length ≤ 2048 → r.told.length ≤ 2048)) (fun _ => h0) (fun _ => bif_p (p := fun r : Stp => r.c.link = y.c.link ∧ r.c.ip = y.c.ip ∧ r.c.pp = y.c.pp ∧ r.c.port = y.c.port ∧ r.out = y.out ∧ (y.told.length ≤ 2048 → r.told.length ≤ 2048)) (fun _ => bif_p (p := fun r : Stp => r.c.link = y.c.link ∧ r.c.ip = y.c.ip ∧ r.c.pp = y.c.pp ∧ r.c.port = y.c.port ∧ r.out = y.out ∧ (y.told.length ≤ 2048 → r.told.length ≤ 2048)) (fun _ => h0) (fun _ => bif_p (p := fun r : Stp => r.c.link = y.c.link ∧ r.c.ip = y.c.ip ∧ r.c.pp = y.c.pp ∧ r.c.port = y.c.port ∧ r.out = y.out ∧ (y.told.length ≤ 2048 → r.told.length ≤ 2048)) (fun _ => ?_) (fun _ => bif_p (p := fun r : Stp => r.c.link = y.c.link ∧ r.c.ip = y.c.ip ∧ r.c.pp = y.c.pp ∧ r.c.port = y.c.port ∧ r.out = y.out ∧ (y.told.length ≤ 2048 → r.told.length ≤ 2048)) (fun _ => ?_) (fun _ => ?_)))) (fun _ => h0))
  all_goals exact hp _ rfl rfl rfl rfl rfl rfl
theorem StI.data {c : Cn} {n : Nat} {y : Stp} (h : StI c n y) (m : Sg) (hI : CnI y.c) : StI c n (y.data m) := by
  obtain ⟨a, b, d, e, f, g⟩ := data_same y m
  exact ⟨h.port, h.pp, a.trans h.e1, b.trans h.e2, d.trans h.e3, e.trans h.e4, (data_I hI m).inx, by rw [f]; exact h.segs, by rw [f]; exact h.cnt, g h.told⟩
theorem StI.pump1 {c : Cn} {n : Nat} {y : Stp} (h : StI c n y) (hP : PumpOk y.c) : StI c (n + 1) y.pump1 := by
  have := pumpN_le hP
  exact h.more (c' := { y.c with nx := wadd y.c.nx y.c.pumpN }) _ (h.segI hP.nx h.inx (by omega) (by omega) (by simp; omega)) rfl rfl rfl rfl rfl
theorem StI.pumpGo {c : Cn} : ∀ (k : Nat) {n : Nat} {y : Stp}, StI c n y → PumpOk y.c → StI c (n + k) (pumpGo k y)
  | 0, n, y, h, _ => h
  | k + 1, n, y, h, hP => by
    rw [Go.Proofs.YtceohcbokbalhaaGreat.pumpGo]
    by_cases hn : y.c.pumpN ≤ 0
    · rw [if_pos hn]; exact h.le (by omega)
    · rw [if_neg hn]
      exact (StI.pumpGo k (h.pump1 hP) (pump1_ok hP (by omega))).le (by omega)
theorem StI.pump {c : Cn} {n : Nat} {y : Stp} (h : StI c n y) (hI : CnI y.c) (ht : y.c.talks = true) : StI c (n + y.c.out.length + 1) y.pump := by
  have hP := hI.pumpOk ht
  have h1 := h.pumpGo y.c.out.length hP
  obtain ⟨hP1, he⟩ := pumpGo_ok y.c.out.length hP
  unfold Stp.pump
  obtain ⟨z, hz⟩ : ∃ z, Go.Proofs.YtceohcbokbalhaaGreat.pumpGo y.c.out.length y = z := ⟨_, rfl⟩
  rw [hz] at h1 hP1 ⊢
  have h2 : StI c (n + y.c.out.length + 1) z.pump2 := by
    unfold Stp.pump2
    by_cases hc : z.c.closing = true ∧ z.c.sent = z.c.len
    · rw [if_pos hc]
      exact h1.more (c' := { z.c with nx := wadd z.c.nx 1, st := if z.c.st = 2 then 3 else 7 }) _ (h1.segI hP1.nx h1.inx (by omega) (by omega) (by simp)) rfl rfl rfl rfl rfl
    · rw [if_neg hc]; exact h1.le (by omega)
  unfold Stp.pump3
  split
  · exact h2.put _ rfl rfl rfl rfl h2.inx
  · exact h2
theorem StI.late {c : Cn} {n : Nat} {y : Stp} (h : StI c n y) : StI c n y.late := by
  unfold Stp.late
  exact bif_p (fun _ => h.put _ rfl rfl rfl rfl h.inx) (fun _ => h)
theorem sendE_t {c : Cn} {xs : List Int} (he : c.sendE xs = 0) : c.talks = true ∧ c.closing = false ∧ ¬ (8192 - (c.out.length : Int) < (xs.length : Int)) := by
  unfold Cn.sendE at he
  cases h1 : c.closing <;> cases h2 : c.talks <;> rw [h1, h2] at he <;> simp at he ⊢
  cases h3 : decide (8192 - (c.out.length : Int) < (xs.length : Int)) with
  | true => rw [h3] at he; simp at he
  | false => simpa using h3
theorem out_I {c : Cn} (h : CnI c) {xs : List Int} (he : c.sendE xs = 0) : CnI { c with out := c.out ++ xs } ∧ ({ c with out := c.out ++ xs } : Cn).talks = true := by
  obtain ⟨ht, _, hl⟩ := sendE_t he
  have hst : c.st = 2 ∨ c.st = 5 := by simpa [Cn.talks] using ht
  have hlen := h.len
  refine ⟨⟨⟨h.link, h.ip, h.pp, h.port, h.st, h.una, h.nx, h.win, by simp; omega, h.may, h.tm⟩, ⟨fun e => ?_, fun e => ?_, fun e => ?_, fun e => ?_, fun _ => ?_⟩⟩, ht⟩
  · have e : c.st = 0 := e; omega
  · have e : c.st = 1 := e; omega
  · have e : c.st = 4 ∨ c.st = 8 := e; omega
  · have e : c.st = 3 ∨ c.st = 6 ∨ c.st = 7 := e; omega
  · obtain ⟨a, b⟩ := h.num.e hst
    exact ⟨a, by show c.sent ≤ ((c.out ++ xs).length : Int); simp; omega⟩
theorem send_I {c : Cn} (h : CnI c) {xs : List Int} (he : c.sendE xs = 0) : CnI (c.sends xs).c ∧ StI c 8200 (c.sends xs) := by
  obtain ⟨h1, h2⟩ := out_I h he
  have hI : CnI (({ c with out := c.out ++ xs } : Cn).start).c := h1
  have h3 := (StI.start' (c' := { c with out := c.out ++ xs }) h.toCnF rfl rfl rfl rfl rfl).pump hI h2
  exact ⟨pump_I hI h2, h3.le (by have := hI.len; omega)⟩
theorem closeE_t {c : Cn} (he : c.closeE = 0) : c.closing = false ∧ (c.talks || c.st == 1) = true := by
  unfold Cn.closeE at he
  cases h1 : c.closing <;> cases h2 : (c.talks || c.st == 1) <;> rw [h1, h2] at he <;> simp at he ⊢
theorem closing_I {c : Cn} (h : CnI c) (he : c.closeE = 0) : CnI { c with closing := true } := by
  obtain ⟨_, h2⟩ := closeE_t he
  have hst : (c.st = 2 ∨ c.st = 5) ∨ c.st = 1 := by simpa [Cn.talks] using h2
  refine ⟨⟨h.link, h.ip, h.pp, h.port, h.st, h.una, h.nx, h.win, h.len, h.may, h.tm⟩, ⟨h.num.z, h.num.a, fun e => ?_, fun e => ?_, h.num.e⟩⟩
  · have e : c.st = 4 ∨ c.st = 8 := e; omega
  · have e : c.st = 3 ∨ c.st = 6 ∨ c.st = 7 := e; omega
theorem close_I {c : Cn} (h : CnI c) (he : c.closeE = 0) : CnI c.closes.c ∧ StI c 8200 c.closes := by
  have h1 := closing_I h he
  have h3 := StI.start' (c' := { c with closing := true }) h.toCnF rfl rfl rfl rfl rfl
  unfold Cn.closes
  refine bif_p (p := fun r : Stp => CnI r.c ∧ StI c 8200 r) (fun ht => ⟨pump_I (x := ({ c with closing := true } : Cn).start) h1 ht, ?_⟩) (fun _ => ⟨h1, h3.le (by omega)⟩)
  exact (h3.pump (y := ({ c with closing := true } : Cn).start) h1 ht).le (by have : c.out.length ≤ 8192 := h.len; show 0 + c.out.length + 1 ≤ 8200; omega)
theorem abort_I {c : Cn} (h : CnI c) : CnI c.aborts.c ∧ StI c 8200 c.aborts := by
  have h0 := StI.start h.toCnF
  unfold Cn.aborts Stp.abort
  exact bif_p (p := fun r : Stp => CnI r.c ∧ StI c 8200 r) (fun _ => ⟨h.toCnF.shut, h0.shut.le (by omega)⟩) (fun _ => ⟨h.toCnF.shut, (h0.seg (seq := c.nx) (fl := 20) (data := []) h.nx (by omega) (by simp)).shut.le (by omega)⟩)
theorem StI.of {c c' : Cn} {n : Nat} {y : Stp} (h : StI c' n y) (e1 : c'.link = c.link) (e2 : c'.ip = c.ip) (e3 : c'.pp = c.pp) (e4 : c'.port = c.port) : StI c n y :=
  ⟨by rw [← e4]; exact h.port, by rw [← e3]; exact h.pp, h.e1.trans e1, h.e2.trans e2, h.e3.trans e3, h.e4.trans e4, h.inx, fun m hm => ⟨(h.segs m hm).ok, (h.segs m hm).sp.trans e4, (h.segs m hm).dp.trans e3, (h.segs m hm).len⟩, h.cnt, h.told⟩
end Go.Proofs.YtceohcbokbalhaaGreat

/- The statement wakes; how much a script weighs; what fits: on data. Conditions: lengths. -/
namespace Go.Proofs.YtceohcbokbalhaaGreat
open Go.RowKit
set_option linter.unusedVariables false
set_option linter.unusedSimpArgs false
set_option maxRecDepth 100000
set_option maxHeartbeats 4000000
structure Act where
  dw : Int
  n : Int
  m : Int
  s : Sg
  fit : Bool
  b : List Int
def CnBig (c : Cn) : Prop := c.out.length ≤ 140737488351232 ∧ PtsLen c.parts
def cwt (c : Cn) : Int := wgo c.out.length c.parts
theorem connWeight_l (c : Cn) (hc : CnBig c) : ACallL Tryz.prog 17 [.agg (cnR 0 c)] [.perm] (.val (.int .i64 (cwt c))) [.perm] := by
  have hlen : (c.parts.map (prt 0)).length = c.parts.length := by simp
  have px := pl_bytes c.out
  have py := pl_parts c.parts
  obtain ⟨h1, h2, h3⟩ := hc
  have lo : (c.out.map bR).length = c.out.length := by simp
  obtain ⟨G, hG⟩ : ∃ G, cwt c = G := ⟨_, rfl⟩
  rw [hG]
  unfold cwt at hG
  obtain ⟨ps, hps⟩ : ∃ r, c.parts = r := ⟨_, rfl⟩
  dsimp only [cnR, cnL]
  rw [hps] at hlen py h2 h3 hG ⊢
  refine ACallL.of_ev mixed Tryz.func17 rfl (fun a w => Tryz.call17 a w) (congrArg Array.toList Tryz.results17) Tryz.ntmps17 fun B hB => ?_
  ((conv => whnf); (repeat' ((first | (with_reducible first | refine qif_n ?_ | refine qif_t ‹_› ?_ | refine qif_f ‹_› ?_) | ((with_reducible refine qif_t ?_ ?_); focus decide) | ((with_reducible refine qif_f ?_ ?_); focus decide) | (with_reducible refine And.intro (orderOk_i ?ho) ?_; (case ho => kernel_rfl)) | (with_reducible first | refine qif_i (fun _ => ?_) (fun _ => ?_) | refine frcVs_i ?_ | refine frcRs_i ?_)) <;> (conv => whnf))))
  refine qAW.loop mixed (X := Nat × Int) (fun x => slotsOf 32 [(1, .ptr 1 0 0), (3, .val (.int .i64 x.2)), (4, .val (.int .i64 x.1))]) (fun x => [.perm, .live ⟨16, 50, [cnL (bL 0 c.out) (.list 0 2 (ps.map (prt 0))) c]⟩]) (fun x => (x.1 ≤ ps.length ∧ 0 ≤ x.2 ∧ x.2 ≤ 300000000000000) ∧ wgo x.2 (ps.drop x.1) = G) (fun x => ps.length - x.1) (0, (c.out.length : Int)) ⟨⟨Nat.zero_le _, by dsimp only; omega, by dsimp only; omega⟩, hG⟩ ?_ ?_
  · (refine qConv.of hB [(1, 1)] [(0, 0)] [] (by rfl) ?_; focus ((conv => whnf); (repeat (refine And.intro ?_ ?_; rotate_left; (conv => whnf))); exact trivial; all_goals (try exact andT)))
    all_goals first | rfl | (rw [lo]; done) | (exact rowsT) | skip
  · rintro ⟨k, v⟩ ⟨⟨hk, h02, h12⟩, hg2⟩
    dsimp only at hk h02 h12 hg2 ⊢
    have w := IntWalk.i64_in (k + 1) (by omega)
    by_cases hlt : k < ps.length
    · obtain ⟨⟨s2, xs2⟩, hxk2⟩ : ∃ p, ps[k]? = some p := ⟨_, List.getElem?_eq_getElem hlt⟩
      have hx2 := h3 _ (List.mem_of_getElem? hxk2)
      dsimp only at hx2
      have hrow2 : (ps.map (prt 0))[(k : Int).toNat]? = some [.val (.int .i64 s2), bL 0 xs2] := by simp [hxk2]
      have lx2 : (xs2.map bR).length = xs2.length := by simp
      by_cases hv2 : v < 1048576
      · have w1 := IntWalk.i64_in (v + 1) (by omega)
        have w2 := IntWalk.i64_in (v + 1 + xs2.length) (by omega)
        have hs2 := wgo_step hxk2 hv2 hg2
        ((conv => whnf); (repeat' ((first | (with_reducible first | refine qif_n ?_ | refine qif_t ‹_› ?_ | refine qif_f ‹_› ?_) | ((with_reducible refine qif_t ?_ ?_); focus decide) | ((with_reducible refine qif_f ?_ ?_); focus decide) | (with_reducible refine And.intro (orderOk_i ?ho) ?_; (case ho => kernel_rfl)) | ((with_reducible refine qif_t ?_ ?_); focus (simp [hlt, hv2]; done)) | ((with_reducible refine qif_f ?_ ?_); focus (simp [hlt, hv2]; done)) | (with_reducible first | refine qif_i (fun _ => ?_) (fun _ => ?_) | refine frcVs_i ?_ | refine frcRs_i ?_) | (refine qCase_i (idxL rfl rfl rfl rfl rfl rfl (by omega) hrow2) ?_)) <;> (conv => whnf))))
        refine ⟨(k + 1, v + 1 + xs2.length), ⟨⟨by dsimp only; omega, by dsimp only; omega, by dsimp only; omega⟩, hs2⟩, by dsimp only; omega, ?_⟩
        (refine qConv.of hB [(1, 1)] [(0, 0)] [] (by rfl) ?_; focus ((conv => whnf); (repeat (refine And.intro ?_ ?_; rotate_left; (conv => whnf))); exact trivial; all_goals (try exact andT)))
        all_goals first | rfl | (exact rowsT) | (simp [w]; done) | (rw [lx2, w1, w2]; done) | skip
      · have e := wgo_stop hlt hv2 hg2
        ((conv => whnf); (repeat' ((first | (with_reducible first | refine qif_n ?_ | refine qif_t ‹_› ?_ | refine qif_f ‹_› ?_) | ((with_reducible refine qif_t ?_ ?_); focus decide) | ((with_reducible refine qif_f ?_ ?_); focus decide) | (with_reducible refine And.intro (orderOk_i ?ho) ?_; (case ho => kernel_rfl)) | ((with_reducible refine qif_t ?_ ?_); focus (simp [hlt, hv2]; done)) | ((with_reducible refine qif_f ?_ ?_); focus (simp [hlt, hv2]; done)) | (with_reducible first | refine qif_i (fun _ => ?_) (fun _ => ?_) | refine frcVs_i ?_ | refine frcRs_i ?_)) <;> (conv => whnf))))
        all_goals (refine qConv.of hB [] [(0, 0)] [] (by rfl) ?_; focus ((conv => whnf); (repeat (refine And.intro ?_ ?_; rotate_left; (conv => whnf))); exact trivial; all_goals (try exact andT)))
        all_goals (rw [e])
    · have e2 : k = ps.length := by omega
      have e : v = G := by rw [e2, List.drop_length] at hg2; exact hg2
      ((conv => whnf); (repeat' ((first | (with_reducible first | refine qif_n ?_ | refine qif_t ‹_› ?_ | refine qif_f ‹_› ?_) | ((with_reducible refine qif_t ?_ ?_); focus decide) | ((with_reducible refine qif_f ?_ ?_); focus decide) | (with_reducible refine And.intro (orderOk_i ?ho) ?_; (case ho => kernel_rfl)) | ((with_reducible refine qif_t ?_ ?_); focus (simp [hlt]; done)) | ((with_reducible refine qif_f ?_ ?_); focus (simp [hlt]; done)) | (with_reducible first | refine qif_i (fun _ => ?_) (fun _ => ?_) | refine frcVs_i ?_ | refine frcRs_i ?_)) <;> (conv => whnf))))
      all_goals (refine qConv.of hB [] [(0, 0)] [] (by rfl) ?_; focus ((conv => whnf); (repeat (refine And.intro ?_ ?_; rotate_left; (conv => whnf))); exact trivial; all_goals (try exact andT)))
      all_goals (rw [e])
end Go.Proofs.YtceohcbokbalhaaGreat

/- The argument of the statements on tcp as data. No condition. -/
namespace Go.Proofs.YtceohcbokbalhaaGreat
open Go.RowKit
set_option linter.unusedVariables false
set_option linter.unusedSimpArgs false
set_option maxRecDepth 100000
set_option maxHeartbeats 4000000
theorem cells_bool : Tryz.prog.cellsOf 4 = 1 := by kernel_rfl
theorem cells_timer : Tryz.prog.cellsOf 48 = 4 := by kernel_rfl
theorem cells_conn : Tryz.prog.cellsOf 50 = 16 := by kernel_rfl
theorem cells_seg : Tryz.prog.cellsOf 39 = 7 := by kernel_rfl
theorem ty_bool {q : Nat} {avs : List AV} (h : TyZV Tryz.prog (q + 1) 4 avs) : ∃ b, avs = [.val (.bool b)] := by
  simp only [TyZV, Tryz.underlying4] at h; exact h
theorem ty_timer {q : Nat} {avs : List AV} (h : TyZV Tryz.prog (q + 2) 48 avs) : ∃ t : Tm, avs = [.val (.bool t.on), .val (.int .i64 t.left), .val (.int .i64 t.wait), .val (.int .i64 t.tries)] := by
  unfold TyZV at h
  rw [Tryz.underlying48] at h
  obtain ⟨hl, hx⟩ := h
  rw [cells_timer] at hl
  match avs, hl with
  | [c0, c1, c2, c3], _ =>
    simp only [List.forall_mem_cons, cells_bool, cells_int, List.drop, List.take] at hx
    obtain ⟨h0, h1, h2, h3, -⟩ := hx
    obtain ⟨b, e0⟩ := ty_bool h0
    obtain ⟨i1, e1, -⟩ := ty_int h1
    obtain ⟨i2, e2, -⟩ := ty_int h2
    obtain ⟨i3, e3, -⟩ := ty_int h3
    simp only [List.cons.injEq, and_true] at e0 e1 e2 e3
    subst e0 e1 e2 e3
    exact ⟨⟨b, i1, i2, i3⟩, rfl⟩
theorem ty_conn {q : Nat} {avs : List AV} (h : TyZV Tryz.prog (q + 6) 50 avs) : ∃ c : Cn, avs = cnR 0 c ∧ CnBig c := by
  unfold TyZV at h
  rw [Tryz.underlying50] at h
  obtain ⟨hl, hx⟩ := h
  rw [cells_conn] at hl
  match avs, hl with
  | [c0, c1, c2, c3, c4, c5, c6, c7, c8, c9, c10, c11, c12, c13, c14, c15], _ =>
    simp only [List.forall_mem_cons, cells_bool, cells_int, cells_bytes, cells_buffer, cells_timer, List.drop, List.take] at hx
    obtain ⟨h0, h1, h2, h3, h4, h5, h6, h7, h8, h9, h10, h11, -⟩ := hx
    obtain ⟨i0, e0, -⟩ := ty_int h0
    obtain ⟨i1, e1, -⟩ := ty_int h1
    obtain ⟨i2, e2, -⟩ := ty_int h2
    obtain ⟨i3, e3, -⟩ := ty_int h3
    obtain ⟨i4, e4, -⟩ := ty_int h4
    obtain ⟨i5, e5, -⟩ := ty_int h5
    obtain ⟨i6, e6, -⟩ := ty_int h6
    obtain ⟨i7, e7, -⟩ := ty_int h7
    obtain ⟨o, e8, b8⟩ := ty_bytes h8
    obtain ⟨n, ps, e9, b9, b9'⟩ := ty_buffer h9
    obtain ⟨cl, e10⟩ := ty_bool h10
    obtain ⟨t, e11⟩ := ty_timer h11
    simp only [List.cons.injEq, and_true] at e0 e1 e2 e3 e4 e5 e6 e7 e8 e9 e10 e11
    obtain ⟨e9, f9⟩ := e9
    obtain ⟨e11, f11, g11, k11⟩ := e11
    subst e0 e1 e2 e3 e4 e5 e6 e7 e8 e9 f9 e10 e11 f11 g11 k11
    exact ⟨⟨i0, i1, i2, i3, i4, i5, i6, i7, o, n, ps, cl, t⟩, rfl, b8.1, b9, fun p hp => (b9' p hp).1⟩
theorem ty_seg {q : Nat} {avs : List AV} (h : TyZV Tryz.prog (q + 3) 39 avs) : ∃ m : Sg, avs = sgR 0 m ∧ m.data.length ≤ 140737488351232 := by
  unfold TyZV at h
  rw [Tryz.underlying39] at h
  obtain ⟨hl, hx⟩ := h
  rw [cells_seg] at hl
  match avs, hl with
  | [c0, c1, c2, c3, c4, c5, c6], _ =>
    simp only [List.forall_mem_cons, cells_int, cells_bytes, List.drop, List.take] at hx
    obtain ⟨h0, h1, h2, h3, h4, h5, h6, -⟩ := hx
    obtain ⟨i0, e0, -⟩ := ty_int h0
    obtain ⟨i1, e1, -⟩ := ty_int h1
    obtain ⟨i2, e2, -⟩ := ty_int h2
    obtain ⟨i3, e3, -⟩ := ty_int h3
    obtain ⟨i4, e4, -⟩ := ty_int h4
    obtain ⟨i5, e5, -⟩ := ty_int h5
    obtain ⟨o, e6, b6⟩ := ty_bytes h6
    simp only [List.cons.injEq, and_true] at e0 e1 e2 e3 e4 e5 e6
    subst e0 e1 e2 e3 e4 e5 e6
    exact ⟨⟨i0, i1, i2, i3, i4, i5, o⟩, rfl, b6.1⟩
end Go.Proofs.YtceohcbokbalhaaGreat

/- A host, and what comes of it: plain functions; what may be one. No condition. -/
namespace Go.Proofs.YtceohcbokbalhaaGreat
open Go.RowKit
set_option linter.unusedVariables false
set_option linter.unusedSimpArgs false
structure Ho where
  conns : List Cn
  count : Int
structure Hd where
  link : Int
  data : List Int
  fin : Bool
  deriving DecidableEq
structure Hs where
  h : Ho
  out : List (Int × Sg)
  heard : List Hd
def seenB (c : Cn) (l : List Cn) : Bool := l.any fun d => d.ip == c.ip && d.pp == c.pp
def connsB (count : Int) : Int → List Cn → List Cn → Bool
  | _, _, [] => true
  | last, done, c :: l => (cnB c && (!(c.st == 0) && (decide (last < c.link) && (decide (c.link ≤ count) && (c.port == 1883 && !seenB c done))))) && connsB count c.link (done ++ [c]) l
def hostB (h : Ho) : Bool := within h.count 1099511627776 && (decide (h.conns.length ≤ 8) && connsB h.count 0 [] h.conns)
def Ho.put (h : Ho) (i : Nat) (c : Cn) : Ho := { h with conns := bif c.st == 0 then h.conns.eraseIdx i else h.conns.set i c }
def hisB (ip : Int) (s : Sg) (c : Cn) : Bool := s.dp == 1883 && (c.ip == ip && c.pp == s.sp)
def synN (l : List Cn) : Nat := (l.filter fun c => c.st == 1).length
def refuseS (s : Sg) : Sg := bif flN s.fl 16 then ⟨s.dp, s.sp, 0, wadd s.seq s.len, 20, 0, []⟩ else ⟨s.dp, s.sp, s.ack, 0, 4, 0, []⟩
def toS (ip : Int) (l : List Sg) : List (Int × Sg) := l.map fun s => (ip, s)
def Ho.more (h : Ho) (ip : Int) (s : Sg) : Hs :=
  ⟨⟨h.conns ++ [(opens (h.count + 1) ip (wadd 0 (64000 * (h.count + 1))) s).c], h.count + 1⟩, toS ip (opens (h.count + 1) ip (wadd 0 (64000 * (h.count + 1))) s).out, []⟩
def Ho.fresh (h : Ho) (ip : Int) (s : Sg) : Hs :=
  bif flN s.fl 4 then
    bif !(s.dp == 1883) || (flN s.fl 2 || (!flN s.fl 16 || (decide (8 ≤ h.conns.length) || (decide (4 ≤ synN h.conns) || h.count == 1099511627776)))) then ⟨h, [(ip, refuseS s)], []⟩
    else h.more ip s
  else ⟨h, [], []⟩
def endB (was now : Int) : Bool := now == 0 || ((now == 5 || (now == 6 || now == 8)) && (was == 1 || (was == 2 || (was == 3 || was == 4))))
def heardL (link : Int) (told : List Int) (fin : Bool) : List Hd := bif fin || !told.isEmpty then [⟨link, told, fin⟩] else []
def Ho.take (h : Ho) (ip : Int) (s : Sg) : Hs :=
  match h.conns.findIdx? (hisB ip s) with
  | some i => let c := h.conns.getD i ⟨0, 0, 0, 0, 0, 0, 0, 0, [], 0, [], false, tm0⟩; let y := c.takes s
    ⟨h.put i y.c, toS ip y.out, heardL c.link y.told (endB c.st y.c.st)⟩
  | none => h.fresh ip s
def Ho.at_ (h : Ho) (link : Int) : Option Nat := h.conns.findIdx? fun c => c.link == link
def Ho.withE (h : Ho) (link : Int) (e : Cn → Int) : Int :=
  match h.at_ link with
  | some i => e (h.conns.getD i ⟨0, 0, 0, 0, 0, 0, 0, 0, [], 0, [], false, tm0⟩)
  | none => 3
def Ho.withS (h : Ho) (link : Int) (f : Cn → Stp) : Hs :=
  match h.at_ link with
  | some i => let c := h.conns.getD i ⟨0, 0, 0, 0, 0, 0, 0, 0, [], 0, [], false, tm0⟩; ⟨h.put i (f c).c, toS c.ip (f c).out, []⟩
  | none => ⟨h, [], []⟩
def tickGo : List Cn → List Cn × List (Int × Sg) × List Hd
  | [] => ([], [], [])
  | c :: l => let y := c.ticks; let r := tickGo l
    (bif y.c.st == 0 then r.1 else y.c :: r.1, toS c.ip y.out ++ r.2.1, bif y.c.st == 0 then ⟨c.link, [], true⟩ :: r.2.2 else r.2.2)
def Ho.tick (h : Ho) : Hs := ⟨⟨(tickGo h.conns).1, h.count⟩, (tickGo h.conns).2.1, (tickGo h.conns).2.2⟩
end Go.Proofs.YtceohcbokbalhaaGreat

/- How the states of a connection go on: plain law. No condition but that it may be one. -/
namespace Go.Proofs.YtceohcbokbalhaaGreat
open Go.RowKit
set_option linter.unusedVariables false
set_option linter.unusedSimpArgs false
end Go.Proofs.YtceohcbokbalhaaGreat

/- A host that may be one stays one: plain law. No condition but that it may be one. -/
namespace Go.Proofs.YtceohcbokbalhaaGreat
open Go.RowKit
set_option linter.unusedVariables false
set_option linter.unusedSimpArgs false
structure CnOk (count : Int) (c : Cn) : Prop where
  I : CnI c
  st : c.st ≠ 0
  le : c.link ≤ count
  port : c.port = 1883
theorem seenB_no (c : Cn) (l : List Cn) : seenB c l = false ↔ ∀ d ∈ l, ¬ (d.ip = c.ip ∧ d.pp = c.pp) := by
  unfold seenB
  rw [List.any_eq_false]
  simp only [Bool.and_eq_true, beq_iff_eq]
theorem connsB_iff {count : Int} : ∀ (l : List Cn) (last : Int) (done : List Cn), connsB count last done l = true ↔
    (∀ c ∈ l, CnOk count c ∧ last < c.link ∧ ∀ d ∈ done, ¬ (d.ip = c.ip ∧ d.pp = c.pp)) ∧ l.Pairwise (fun a b => a.link < b.link) ∧ l.Pairwise (fun a b => ¬ (a.ip = b.ip ∧ a.pp = b.pp))
  | [], last, done => by simp [connsB]
  | c :: l, last, done => by
    rw [connsB, Bool.and_eq_true, connsB_iff l c.link (done ++ [c])]
    simp only [Bool.and_eq_true, Bool.not_eq_true', beq_iff_eq, beq_eq_false_iff_ne, decide_eq_true_eq, seenB_no, cnB_iff, List.pairwise_cons, List.forall_mem_cons]
    constructor
    · rintro ⟨⟨h1, h2, h3, h4, h5, h6⟩, h7, h8, h9⟩
      refine ⟨⟨⟨⟨h1, h2, h4, h5⟩, h3, h6⟩, fun d hd => ?_⟩, ⟨fun d hd => (h7 d hd).2.1, h8⟩, ⟨fun d hd => (h7 d hd).2.2 c (by simp), h9⟩⟩
      obtain ⟨a, b, e⟩ := h7 d hd
      exact ⟨a, by omega, fun x hx => e x (by simp [hx])⟩
    · rintro ⟨⟨⟨⟨h1, h2, h4, h5⟩, h3, h6⟩, h7⟩, ⟨h8, h9⟩, ⟨h10, h11⟩⟩
      refine ⟨⟨h1, h2, h3, h4, h5, h6⟩, fun d hd => ?_, h9, h11⟩
      obtain ⟨a, b, e⟩ := h7 d hd
      refine ⟨a, h8 d hd, fun x hx => ?_⟩
      rcases List.mem_append.1 hx with hx | hx
      · exact e x hx
      · rw [List.mem_singleton.1 hx]; exact h10 d hd
structure HoI (h : Ho) : Prop where
  count : 0 ≤ h.count ∧ h.count ≤ 1099511627776
  len : h.conns.length ≤ 8
  ok : ∀ c ∈ h.conns, CnOk h.count c ∧ 0 < c.link
  up : h.conns.Pairwise (fun a b => a.link < b.link)
  one : h.conns.Pairwise (fun a b => ¬ (a.ip = b.ip ∧ a.pp = b.pp))
theorem hostB_iff (h : Ho) : hostB h = true ↔ HoI h := by
  unfold hostB within
  rw [Bool.and_eq_true, Bool.and_eq_true, decide_eq_true_eq, decide_eq_true_eq, connsB_iff]
  constructor
  · rintro ⟨h1, h2, h3, h4, h5⟩
    exact ⟨h1, h2, fun c hc => ⟨(h3 c hc).1, (h3 c hc).2.1⟩, h4, h5⟩
  · rintro ⟨h1, h2, h3, h4, h5⟩
    exact ⟨h1, h2, fun c hc => ⟨(h3 c hc).1, (h3 c hc).2, by simp⟩, h4, h5⟩
theorem pairwise_set {α : Type} {R : α → α → Prop} {l : List α} (h : l.Pairwise R) {i : Nat} {c d : α} (hi : l[i]? = some c) (h1 : ∀ x, R x c → R x d) (h2 : ∀ x, R c x → R d x) : (l.set i d).Pairwise R := by
  rw [List.pairwise_iff_getElem] at h ⊢
  intro a b ha hb hab
  simp only [List.length_set] at ha hb
  have hil := (List.getElem?_eq_some_iff.1 hi).1
  have hie := (List.getElem?_eq_some_iff.1 hi).2
  simp only [List.getElem_set]
  have hr := h a b ha hb hab
  by_cases e1 : i = a
  · subst e1
    rw [if_pos rfl, if_neg (by omega)]
    exact h2 _ (hie ▸ hr)
  · rw [if_neg e1]
    by_cases e2 : i = b
    · subst e2
      rw [if_pos rfl]
      exact h1 _ (hie ▸ hr)
    · rw [if_neg e2]; exact hr
theorem HoI.put {h : Ho} (H : HoI h) {i : Nat} {c d : Cn} (hi : h.conns[i]? = some c) (hd : CnI d) (e1 : d.link = c.link) (e2 : d.ip = c.ip) (e3 : d.pp = c.pp) (e4 : d.port = c.port) : HoI (h.put i d) := by
  unfold Ho.put
  cases hs : (d.st == 0) with
  | true =>
    rw [cond_true]
    exact ⟨H.count, by have := H.len; rw [List.length_eraseIdx]; split <;> omega, fun x hx => H.ok x (List.mem_of_mem_eraseIdx hx), H.up.sublist (List.eraseIdx_sublist ..), H.one.sublist (List.eraseIdx_sublist ..)⟩
  | false =>
    rw [cond_false]
    have hst : d.st ≠ 0 := by simpa using hs
    obtain ⟨k1, k2⟩ := H.ok c (List.mem_of_getElem? hi)
    refine ⟨H.count, by simpa using H.len, fun x hx => ?_, pairwise_set H.up hi (fun x hx => by rw [e1]; exact hx) (fun x hx => by rw [e1]; exact hx), pairwise_set H.one hi (fun x hx => by rw [e2, e3]; exact hx) (fun x hx => by rw [e2, e3]; exact hx)⟩
    rcases List.mem_or_eq_of_mem_set hx with hx | rfl
    · exact H.ok x hx
    · exact ⟨⟨hd, hst, by rw [e1]; exact k1.le, by rw [e4]; exact k1.port⟩, by rw [e1]; exact k2⟩
theorem HoI.more {h : Ho} (H : HoI h) {d : Cn} (hd : CnI d) (hst : d.st ≠ 0) (hl : d.link = h.count + 1) (hp : d.port = 1883) (h8 : h.conns.length < 8) (hc : h.count < 1099511627776) (hno : ∀ c ∈ h.conns, ¬ (c.ip = d.ip ∧ c.pp = d.pp)) : HoI ⟨h.conns ++ [d], h.count + 1⟩ := by
  have h0 := H.count
  refine ⟨by dsimp only; omega, by simp; omega, fun x hx => ?_, ?_, ?_⟩
  · rcases List.mem_append.1 hx with hx | hx
    · obtain ⟨a, b⟩ := H.ok x hx
      exact ⟨⟨a.I, a.st, by have := a.le; dsimp only; omega, a.port⟩, b⟩
    · rw [List.mem_singleton.1 hx]
      exact ⟨⟨hd, hst, by dsimp only; omega, hp⟩, by omega⟩
  · rw [List.pairwise_append]
    exact ⟨H.up, by simp, fun a ha b hb => by rw [List.mem_singleton.1 hb]; have := (H.ok a ha).1.le; omega⟩
  · rw [List.pairwise_append]
    exact ⟨H.one, by simp, fun a ha b hb => by rw [List.mem_singleton.1 hb]; exact hno a ha⟩
end Go.Proofs.YtceohcbokbalhaaGreat

/- What comes of a host that may be one may be one: plain law. Conditions: the segment may be one. -/
namespace Go.Proofs.YtceohcbokbalhaaGreat
open Go.RowKit
set_option linter.unusedVariables false
set_option linter.unusedSimpArgs false
set_option maxRecDepth 100000
theorem fl20 : ∀ n : Fin 64, flN ((n.val : Nat) : Int) 20 = (flN ((n.val : Nat) : Int) 16 && flN ((n.val : Nat) : Int) 4) := by decide +kernel
theorem flN_20 {fl : Int} (h : 0 ≤ fl ∧ fl ≤ 63) : flN fl 20 = (flN fl 16 && flN fl 4) := by
  have := fl20 ⟨fl.toNat, by omega⟩
  simpa [Int.toNat_of_nonneg h.1] using this
abbrev cnZ : Cn := ⟨0, 0, 0, 0, 0, 0, 0, 0, [], 0, [], false, tm0⟩
theorem find_some {p : Cn → Bool} {l : List Cn} {i : Nat} (h : l.findIdx? p = some i) : ∃ c, l[i]? = some c ∧ p c = true ∧ l.getD i cnZ = c := by
  obtain ⟨hi, hp, -⟩ := List.findIdx?_eq_some_iff_getElem.1 h
  exact ⟨l[i], List.getElem?_eq_getElem hi, hp, by simp [List.getD, hi]⟩
theorem with_H {h : Ho} (H : HoI h) {link : Int} {f : Cn → Stp} (hf : ∀ c, CnI c → h.at_ link ≠ none → c ∈ h.conns → c.link = link → CnI (f c).c ∧ StI c 8200 (f c)) : HoI (h.withS link f).h := by
  unfold Ho.withS
  cases ha : h.at_ link with
  | none => exact H
  | some i =>
    unfold Ho.at_ at ha
    obtain ⟨c, hi, hp, hg⟩ := find_some ha
    dsimp only
    rw [hg]
    have hm := List.mem_of_getElem? hi
    obtain ⟨a, b⟩ := hf c (H.ok c hm).1.I (by unfold Ho.at_; rw [ha]; simp) hm (by simpa using hp)
    exact H.put hi a b.e1 b.e2 b.e3 b.e4
end Go.Proofs.YtceohcbokbalhaaGreat

/- Code cut inside loops and blocks: a loop's round, a block's inside, told statement by statement. No condition. -/
namespace Go.Proofs.YtceohcbokbalhaaGreat
open Go.RowKit
set_option linter.unusedVariables false
set_option linter.unusedSimpArgs false
def qRest (P : Program) (B : Base) (L : List Code) (Q : AExit → List AV → List Own → Prop) (sl : List AV) (h : List Own) : Prop := qAWs P B L Q sl h
theorem qRest.go {P : Program} (hm : P.follows .mixedOrders = true) {B : Base} {L : List Code} {c : Code} {Q : AExit → List AV → List Own → Prop} {sl : List AV} {h : List Own} (hc : chain L = c) (H : frcVV sl fun sl => frcOs h fun h => ev P B c Q sl h) : qRest P B L Q sl h :=
  qAWs.fin hm hc H
theorem qRest.of {P : Program} {B : Base} {L : List Code} {Q : AExit → List AV → List Own → Prop} {sl : List AV} {h : List Own} (H : qAWs P B L Q sl h) : qRest P B L Q sl h := H
theorem qRest.nil {P : Program} {B : Base} {Q : AExit → List AV → List Own → Prop} {sl : List AV} {h : List Own} (H : Q .normal sl h) : qRest P B [] Q sl h := H
theorem qRest.conv {P : Program} {B : Base} {a : Code} {L : List Code} {Q : AExit → List AV → List Own → Prop} {sl sl' : List AV} {h h' : List Own} (hc : qConv B sl h sl' h') (H : qRest P B (a :: L) Q sl' h') : qRest P B (a :: L) Q sl h := by
  unfold qConv at hc
  exact AW.conv hc H
attribute [irreducible] qRest
theorem AW.block {P : Program} {B : Base} {i : Nat} {c : Code} {Q : AExit → ASt → Prop} {st : ASt} (H : AW P B c (aBlock i Q) st) : AW P B (.block i c) Q st := by
  intro m w a hs hev
  refine wp_block (wp_mono (H m w a hs hev) ?_)
  rintro e a' w' ⟨e', st', m', rfl, hq, hs', ev⟩
  cases e' with
  | normal => exact ⟨.normal, st', m', rfl, hq, hs', ev⟩
  | exit id' =>
    simp only [aBlock_exit] at hq
    simp only [AExit.conc, Exit.inBlock]
    split
    · rename_i e; rw [if_pos e] at hq; exact ⟨.normal, st', m', rfl, hq, hs', ev⟩
    · rename_i e; rw [if_neg e] at hq; exact ⟨.exit id', st', m', rfl, hq, hs', ev⟩
  | goto l => exact ⟨.goto l, st', m', rfl, hq, hs', ev⟩
  | ret => exact ⟨.ret, st', m', rfl, hq, hs', ev⟩
theorem qAWs.block {P : Program} {B : Base} {i : Nat} {c : Code} {Lc L : List Code} {Q : AExit → List AV → List Own → Prop} {sl : List AV} {h : List Own} (hL : spine c = Lc)
    (H : ∀ (E : AExit → List AV → List Own → Prop), E = (fun e sl h => match e with | .normal => qRest P B L Q sl h | .exit j => (if j = i then qRest P B L Q sl h else Q (.exit j) sl h) | e => Q e sl h) → qAWs P B Lc E sl h) : qAWs P B (.block i c :: L) Q sl h := by
  have H' := H _ rfl
  unfold qAWs
  unfold AWs
  refine AW.block (AW.mono (AWs.spine c (by rw [hL]; exact H')) fun e st H => ?_)
  dsimp only [qQ] at H
  unfold qRest at H
  cases e with
  | normal => exact H
  | exit j =>
    rw [aBlock_exit]
    dsimp only at H
    split
    · rename_i e; rw [if_pos e] at H; exact H
    · rename_i e; rw [if_neg e] at H; exact H
  | goto l => exact H
  | ret => exact H
def apF : List (Nat × Own) → List Own → (List Own → Prop) → Prop
  | [], l, K => K l
  | (n, o) :: T, l, K => frcL (setO l n o) fun l' => apF T l' K
theorem apF_eq : ∀ (T : List (Nat × Own)) (l : List Own) (K : List Own → Prop), apF T l K = K (apE l T)
  | [], l, K => rfl
  | (n, o) :: T, l, K => by
    unfold apF apE
    rw [frcL_eq, apF_eq T]
theorem qCall.ofX {P : Program} {f : FuncId} {args : List AV} {L0 L1 : List Own} {res : AV} (H : ACallL P f args L0 res L1) (own imm bor fr : Prs) (T : List (Nat × Own)) (res' : AV) (OL OI EA : Prs) {aa : List AV} {h : List Own} {K : AV → List Nat → List Nat → List Own → Prop}
    (hk : callB L0 L1 h own imm bor fr T = true) (h1 : outL L1 own fr = OL) (h2 : outI L1 imm bor fr = OI) (h3 : eatOf L1 imm = EA)
    (hq : avsE own.swap imm.swap bor.swap h aa args (rowsE (qOf own.swap imm.swap bor.swap) h L0 own.swap (aftE (qOf OL OI []) L1 T own (aftE (qOf OL OI []) L1 T fr
      (av2E OL OI [] L1 res res' (frcNs (own.map (·.2) ++ imm.map (·.2) ++ bor.map (·.2) ++ fr.map (·.2)) fun rd => frcNs (own.map (·.2) ++ EA.map (·.2) ++ fr.map (·.2)) fun wr => frcTs (wr.map fun x => (x, look T x)) fun T => apF T h fun h' => frcW res' fun res' => K res' rd wr h')))))) : qCall P f aa h K := by
  subst h1 h2 h3
  simp only [apF_eq] at hq
  exact qCall.of H own imm bor fr T res' hk (by simpa only [frcL_eq] using hq)
end Go.Proofs.YtceohcbokbalhaaGreat

/- The host's small functions on data. Conditions: lengths. -/
namespace Go.Proofs.YtceohcbokbalhaaGreat
open Go.RowKit
set_option linter.unusedVariables false
set_option linter.unusedSimpArgs false
set_option maxRecDepth 100000
set_option maxHeartbeats 4000000
abbrev snR (r : Nat) (p : Int × Sg) : List AV := .val (.int .i64 p.1) :: sgR r p.2
abbrev snG (r : Nat) (p : Int × Sg) : List AV := .val (.int .i64 p.1) :: sgG r p.2
abbrev hdG (r : Nat) (x : Hd) : List AV := [.val (.int .i64 x.link), gL r x.data, .val (.bool x.fin)]
abbrev hdR (r : Nat) (x : Hd) : List AV := [.val (.int .i64 x.link), bL r x.data, .val (.bool x.fin)]
abbrev hoR (h : Ho) : List AV := [.list 0 16 (h.conns.map (cnR 0)), .val (.int .i64 h.count)]
theorem pl_cns (l : List Cn) : PlRows (l.map (cnR 0)) := PlRows.mapF l (cnR 0) fun c _ => by
  have := pl_bytes c.out
  have := pl_parts c.parts
  exact plT
theorem refuse_l (s : Sg) (hs : s.data.length ≤ 100000000) : ACallL Tryz.prog 114 [.agg (sgR 0 s)] [.perm] (.agg (sgL (.val (.slice none 0 0)) (refuseS s))) [.perm] := by
  have px := pl_bytes s.data
  have cL := segLen_l s hs
  dsimp only [sgR, sgL] at cL ⊢
  obtain ⟨n, hn⟩ : ∃ n, s.len = n := ⟨_, rfl⟩
  obtain ⟨b, hb⟩ : ∃ b, flN s.fl 16 = b := ⟨_, rfl⟩
  unfold refuseS
  rw [hb]
  unfold flN at hb
  rw [hn] at cL ⊢
  cases b
  all_goals
    refine ACallL.of_ev mixed Tryz.func114 rfl (fun a w => Tryz.call114 a w) (congrArg Array.toList Tryz.results114) Tryz.ntmps114 fun B hB => ?_
    ((conv => whnf); (repeat' ((first | (with_reducible first | refine qif_n ?_ | refine qif_t ‹_› ?_ | refine qif_f ‹_› ?_) | ((with_reducible refine qif_t ?_ ?_); focus decide) | ((with_reducible refine qif_f ?_ ?_); focus decide) | (with_reducible refine And.intro (orderOk_i ?ho) ?_; (case ho => kernel_rfl)) | ((with_reducible refine qif_t ?_ ?_); focus (simp []; done)) | ((with_reducible refine qif_f ?_ ?_); focus (simp []; done)) | (with_reducible first | refine qif_i (fun _ => ?_) (fun _ => ?_) | refine frcVs_i ?_ | refine frcRs_i ?_) | ((with_reducible refine qCall.pure (cL) ?_ ?_ ?_ ?_); rotate_left 4; exact trivial; exact plT; exact plT) | ((with_reducible refine qCall.pure (spanAdd_l _ _) ?_ ?_ ?_ ?_); rotate_left 4; exact trivial; exact plT; exact plT)) <;> (conv => whnf))))
    all_goals (refine qConv.of hB [] [(0, 0)] [] (by rfl) ?_; focus ((conv => whnf); (repeat (refine And.intro ?_ ?_; rotate_left; (conv => whnf))); exact trivial; all_goals (try exact andT)))
    all_goals first | rfl | simp_all
theorem opening_l (h : Ho) (hl : h.conns.length ≤ 100) : ACallL Tryz.prog 113 [.agg (hoR h)] [.perm] (.val (.int .i64 (synN h.conns))) [.perm] := by
  have px := pl_cns h.conns
  have ll : (h.conns.map (cnR 0)).length = h.conns.length := by simp
  dsimp only [hoR]
  refine ACallL.of_ev mixed Tryz.func113 rfl (fun a w => Tryz.call113 a w) (congrArg Array.toList Tryz.results113) Tryz.ntmps113 fun B hB => ?_
  ((conv => whnf); (repeat' ((first | (with_reducible first | refine qif_n ?_ | refine qif_t ‹_› ?_ | refine qif_f ‹_› ?_) | ((with_reducible refine qif_t ?_ ?_); focus decide) | ((with_reducible refine qif_f ?_ ?_); focus decide) | (with_reducible refine And.intro (orderOk_i ?ho) ?_; (case ho => kernel_rfl)) | (with_reducible first | refine qif_i (fun _ => ?_) (fun _ => ?_) | refine frcVs_i ?_ | refine frcRs_i ?_)) <;> (conv => whnf))))
  refine qAW.loopE mixed (X := Nat) (fun k => slotsOf 19 [(2, .val (.int .i64 (synN (h.conns.take k)))), (6, .list 0 16 (h.conns.map (cnR 0))), (7, .val (.int .i64 (h.conns.map (cnR 0)).length)), (8, .val (.int .i64 k))]) (fun k => [.perm])
    (fun k => k ≤ h.conns.length) (fun k => h.conns.length - k) 0 (Nat.zero_le _) ?_ ?_
  · (refine qConv.of hB [] [(0, 0)] [] (by rfl) ?_; focus ((conv => whnf); (repeat (refine And.intro ?_ ?_; rotate_left; (conv => whnf))); exact trivial; all_goals (try exact andT)))
    all_goals rfl
  · rintro E k hk hE
    by_cases hlt : k < h.conns.length
    · obtain ⟨c, hc⟩ : ∃ p, h.conns[k]? = some p := ⟨_, List.getElem?_eq_getElem hlt⟩
      have hrow : (h.conns.map (cnR 0))[(k : Int).toNat]? = some (cnR 0 c) := by simp [hc]
      have := pl_bytes c.out
      have := pl_parts c.parts
      have w := IntWalk.i64_in (k + 1) (by omega)
      have hsn : synN (h.conns.take (k + 1)) = synN (h.conns.take k) + (if c.st = 1 then 1 else 0) := by
        unfold synN
        rw [take_snoc hc, List.filter_append, List.length_append]
        by_cases h1 : c.st = 1 <;> simp [h1]
      have hle : synN (h.conns.take k) ≤ k := by
        unfold synN
        exact Nat.le_trans (List.length_filter_le _ _) (by simp; omega)
      have w2 := IntWalk.i64_in ((synN (h.conns.take k) : Nat) + 1) (by omega)
      by_cases h1 : c.st = 1
      · rw [if_pos h1] at hsn
        subst hE
        ((conv => whnf); (repeat' ((first | (with_reducible first | refine qif_n ?_ | refine qif_t ‹_› ?_ | refine qif_f ‹_› ?_) | ((with_reducible refine qif_t ?_ ?_); focus decide) | ((with_reducible refine qif_f ?_ ?_); focus decide) | (with_reducible refine And.intro (orderOk_i ?ho) ?_; (case ho => kernel_rfl)) | ((with_reducible refine qif_t ?_ ?_); focus (simp [hlt, h1]; done)) | ((with_reducible refine qif_f ?_ ?_); focus (simp [hlt, h1]; done)) | (with_reducible first | refine qif_i (fun _ => ?_) (fun _ => ?_) | refine frcVs_i ?_ | refine frcRs_i ?_) | (refine qCase_i (idxL rfl rfl rfl rfl rfl rfl (by omega) hrow) ?_)) <;> (conv => whnf))))
        refine ⟨k + 1, by omega, by omega, ?_⟩
        dsimp only
        rw [hsn]
        (refine qConv.of hB [] [(0, 0)] [] (by rfl) ?_; focus ((conv => whnf); (repeat (refine And.intro ?_ ?_; rotate_left; (conv => whnf))); exact trivial; all_goals (try exact andT)))
        all_goals first | rfl | (simp [w]; done) | (simp [w2]; done)
      · rw [if_neg h1] at hsn
        subst hE
        ((conv => whnf); (repeat' ((first | (with_reducible first | refine qif_n ?_ | refine qif_t ‹_› ?_ | refine qif_f ‹_› ?_) | ((with_reducible refine qif_t ?_ ?_); focus decide) | ((with_reducible refine qif_f ?_ ?_); focus decide) | (with_reducible refine And.intro (orderOk_i ?ho) ?_; (case ho => kernel_rfl)) | ((with_reducible refine qif_t ?_ ?_); focus (simp [hlt, h1]; done)) | ((with_reducible refine qif_f ?_ ?_); focus (simp [hlt, h1]; done)) | (with_reducible first | refine qif_i (fun _ => ?_) (fun _ => ?_) | refine frcVs_i ?_ | refine frcRs_i ?_) | (refine qCase_i (idxL rfl rfl rfl rfl rfl rfl (by omega) hrow) ?_)) <;> (conv => whnf))))
        refine ⟨k + 1, by omega, by omega, ?_⟩
        dsimp only
        rw [hsn]
        (refine qConv.of hB [] [(0, 0)] [] (by rfl) ?_; focus ((conv => whnf); (repeat (refine And.intro ?_ ?_; rotate_left; (conv => whnf))); exact trivial; all_goals (try exact andT)))
        all_goals first | rfl | (simp [w]; done) | (simp [w2]; done)
    · have e : h.conns.take k = h.conns := List.take_of_length_le (by omega)
      rw [e]
      subst hE
      ((conv => whnf); (repeat' ((first | (with_reducible first | refine qif_n ?_ | refine qif_t ‹_› ?_ | refine qif_f ‹_› ?_) | ((with_reducible refine qif_t ?_ ?_); focus decide) | ((with_reducible refine qif_f ?_ ?_); focus decide) | (with_reducible refine And.intro (orderOk_i ?ho) ?_; (case ho => kernel_rfl)) | ((with_reducible refine qif_t ?_ ?_); focus (simp [hlt]; done)) | ((with_reducible refine qif_f ?_ ?_); focus (simp [hlt]; done)) | (with_reducible first | refine qif_i (fun _ => ?_) (fun _ => ?_) | refine frcVs_i ?_ | refine frcRs_i ?_)) <;> (conv => whnf))))
      (refine qConv.of hB [] [(0, 0)] [] (by rfl) ?_; focus ((conv => whnf); (repeat (refine And.intro ?_ ?_; rotate_left; (conv => whnf))); exact trivial; all_goals (try exact andT)))
end Go.Proofs.YtceohcbokbalhaaGreat

/- The page's steps of a connection on data: a segment is sent, it is shut. Conditions: lengths. -/
namespace Go.Proofs.YtceohcbokbalhaaGreat
open Go.RowKit
set_option linter.unusedVariables false
set_option linter.unusedSimpArgs false
set_option maxRecDepth 100000
set_option maxHeartbeats 4000000
abbrev rsN (o p d t s e : Nat) (x : Stp) : List AV := spL (bL o x.c.out) (.list p 2 (x.c.parts.map (prt d))) (.glist s 7 (x.out.map (sgR e))) (bL t x.told) x.c
abbrev rsO (row : List AV) : Own := .live ⟨18, 109, [row]⟩
theorem segs_ll {L I F : Prs} {h : Hp} {r r' : Nat} (h0 : I.has r r' = true) (l : List Sg) : RowsRen (qOf L I F) h (l.map (sgR r)) (l.map (sgR r')) :=
  RowsRen.mapF l _ _ fun m _ => .cons (.val _) (.cons (.val _) (.cons (.val _) (.cons (.val _) (.cons (.val _) (.cons (.val _) (.cons (Ren.ll h0 m.data) .nil))))))
theorem segs_gl {L I F : Prs} {h : Hp} {r r' : Nat} (h0 : I.has r r' = true) (l : List Sg) : RowsRen (qOf L I F) h (l.map (sgG r)) (l.map (sgR r')) :=
  RowsRen.mapF l _ _ fun m _ => .cons (.val _) (.cons (.val _) (.cons (.val _) (.cons (.val _) (.cons (.val _) (.cons (.val _) (.cons (Ren.g2 h0 m.data) .nil))))))
theorem Ren.sll {L I F : Prs} {h : Hp} {r r' d d' : Nat} (h0 : I.has r r' = true) (h1 : I.has d d' = true) (l : List Sg) : Ren (qOf L I F) h (.glist r 7 (l.map (sgR d))) (.glist r' 7 (l.map (sgR d'))) := by
  obtain ⟨a, b, c⟩ := segs_ll (L := L) (I := I) (F := F) (h := h) h1 l
  exact .glist _ _ _ _ _ ((Prs.has_iff I r r').1 h0) a b c
theorem Ren.sll1 {L I F : Prs} {h : Hp} {r r' d d' e : Nat} {row : List AV} {m : Sg} {l : List Sg} (h0 : I.has r r' = true) (h1 : I.has d d' = true) (hr : row = sgG e m) (h2 : I.has e d' = true) : Ren (qOf L I F) h (.glist r 7 (l.map (sgR d) ++ [row])) (.glist r' 7 ((l ++ [m]).map (sgR d'))) := by
  subst hr
  obtain ⟨a, b, c⟩ := (segs_ll (L := L) (I := I) (F := F) (h := h) h1 l).app (segs_gl (L := L) (I := I) (F := F) (h := h) h2 [m])
  rw [← List.map_append] at a b c
  exact .glist _ _ _ _ _ ((Prs.has_iff I r r').1 h0) a b c
theorem Ren.sllN {L I F : Prs} {h : Hp} {r r' d d' : Nat} {row : List AV} {m : Sg} {l : List Sg} (h0 : I.has r r' = true) (h1 : I.has d d' = true) (hd : m.data = []) (hr : row = sgL (.val (.slice none 0 0)) m) : Ren (qOf L I F) h (.glist r 7 (l.map (sgR d) ++ [row])) (.glist r' 7 ((l ++ [m]).map (sgR d'))) := by
  subst hr
  have e : RowsRen (qOf L I F) h [sgL (.val (.slice none 0 0)) m] ([m].map (sgR d')) := by
    refine RowsRen.one (.cons (.val _) (.cons (.val _) (.cons (.val _) (.cons (.val _) (.cons (.val _) (.cons (.val _) (.cons ?_ .nil)))))))
    rw [hd]
    exact .vnil _ _
  obtain ⟨a, b, c⟩ := (segs_ll (L := L) (I := I) (F := F) (h := h) h1 l).app e
  rw [← List.map_append] at a b c
  exact .glist _ _ _ _ _ ((Prs.has_iff I r r').1 h0) a b c
theorem Ren.pg2 {L I F : Prs} {h : Hp} {r r' d d' : Nat} (h0 : I.has r r' = true) (h1 : I.has d d' = true) (l : List Pt) : Ren (qOf L I F) h (.list r 2 (l.map (prg d))) (.list r' 2 (l.map (prt d'))) := by
  obtain ⟨a, b, c⟩ := parts_g2 (L := L) (I := I) (F := F) (h := h) h1 l
  exact .list _ _ _ _ _ ((Prs.has_iff I r r').1 h0) a b c
theorem dt_AhTcpR_ROWR {p : Prop} (h : p := by first | ((first | rfl | (refine RowsRen.one ?_; (repeat (refine Cells.cons ?_ ?_; focus (first | exact .val _ | exact Ren.ll rfl _ | exact Ren.gg rfl _ | exact Ren.g2 rfl _ | exact Ren.vnil _ _ | exact Ren.vgnil _ _ | exact Ren.sll rfl rfl _ | exact Ren.sllN rfl rfl rfl rfl | exact Ren.sll1 rfl rfl rfl rfl | exact Ren.pll rfl rfl _ | fail))); exact Cells.nil) | exact segs_ll rfl _ | exact parts_ll rfl _ | exact bytes_cells _); done) | fail) : p := h
theorem rseg_l (x : Stp) (seq fl : Int) (data : List Int) (hd : data.length ≤ 100000000) (hs : x.out.length ≤ 100000000) :
    ACallL Tryz.prog 96 [.ptr 1 0 0, .val (.int .i64 seq), .val (.int .i64 fl), bL 2 data] [.perm, rsO (rsN 2 3 4 5 6 7 x), .perm, .perm, .perm, .perm, .uniq, .uniq]
      (.tup []) [.perm, rsO (rsN 2 3 4 5 8 9 (x.seg seq fl data)), .perm, .perm, .perm, .perm, .dead, .dead, .uniq, .uniq] := by
  dsimp only [rsN, spL, Stp.seg] at hs ⊢
  refine ACallL.of_ev mixed Tryz.func96 rfl (fun a w => Tryz.call96 a w) (congrArg Array.toList Tryz.results96) Tryz.ntmps96 fun B hB => ?_
  ((conv => whnf); (repeat' ((first | (with_reducible first | refine qif_n ?_ | refine qif_t ‹_› ?_ | refine qif_f ‹_› ?_) | ((with_reducible refine qif_t ?_ ?_); focus decide) | ((with_reducible refine qif_f ?_ ?_); focus decide) | (with_reducible refine And.intro (orderOk_i ?ho) ?_; (case ho => kernel_rfl)) | (with_reducible first | refine qif_i (fun _ => ?_) (fun _ => ?_) | refine frcVs_i ?_ | refine frcRs_i ?_)) <;> (conv => whnf))))
  ((with_reducible refine qCall.fresh (fun r => gL r data) (copyBytes_l data hd) [(0, 2)] [] ?hk ?_); (case hk => rfl); (conv => whnf); (repeat (refine And.intro ?_ ?_; exact sideT; (conv => whnf))); (fail_if_success (with_reducible first | refine And.intro (eqv_i ?_) ?_ | refine And.intro (ren_i ?_) ?_)))
  ((conv => whnf); (repeat' ((first | (with_reducible first | refine qif_n ?_ | refine qif_t ‹_› ?_ | refine qif_f ‹_› ?_) | ((with_reducible refine qif_t ?_ ?_); focus decide) | ((with_reducible refine qif_f ?_ ?_); focus decide) | (with_reducible refine And.intro (orderOk_i ?ho) ?_; (case ho => kernel_rfl)) | (with_reducible first | refine qif_i (fun _ => ?_) (fun _ => ?_) | refine frcVs_i ?_ | refine frcRs_i ?_) | (refine qCase_i (apG (nb := 72) rfl rfl rfl rfl rfl rfl rfl rfl rfl rfl (by decide) rfl (by simp; omega)) ?_)) <;> (conv => whnf))))
  (refine qConv.of hB [(1, 1)] [(0, 0), (2, 2), (3, 3), (4, 4), (5, 5), (10, 8), (7, 9), (8, 9)] [] (by rfl) ?_; focus ((conv => whnf); (repeat (refine And.intro ?_ ?_; rotate_left; (conv => whnf))); exact trivial; all_goals (try exact andT)))
  all_goals (try exact dt_AhTcpR_ROWR)
theorem rshut_l (x : Stp) :
    ACallL Tryz.prog 97 [.ptr 1 0 0] [.perm, rsO (rsN 2 3 4 5 6 7 x), .perm, .perm, .perm, .perm, .perm, .perm]
      (.tup []) [.perm, rsO (rsN 2 3 4 5 6 7 x.shut), .perm, .perm, .perm, .perm, .perm, .perm] := by
  dsimp only [rsN, spL]
  refine ACallL.of_ev mixed Tryz.func97 rfl (fun a w => Tryz.call97 a w) (congrArg Array.toList Tryz.results97) Tryz.ntmps97 fun B hB => ?_
  ((conv => whnf); (repeat' ((first | (with_reducible first | refine qif_n ?_ | refine qif_t ‹_› ?_ | refine qif_f ‹_› ?_) | ((with_reducible refine qif_t ?_ ?_); focus decide) | ((with_reducible refine qif_f ?_ ?_); focus decide) | (with_reducible refine And.intro (orderOk_i ?ho) ?_; (case ho => kernel_rfl)) | (with_reducible first | refine qif_i (fun _ => ?_) (fun _ => ?_) | refine frcVs_i ?_ | refine frcRs_i ?_)) <;> (conv => whnf))))
  (refine qConv.of hB [(1, 1)] [(0, 0), (2, 2), (3, 3), (4, 4), (5, 5), (6, 6), (7, 7)] [] (by rfl) ?_; focus ((conv => whnf); (repeat (refine And.intro ?_ ?_; rotate_left; (conv => whnf))); exact trivial; all_goals (try exact andT)))
  all_goals (try exact dt_AhTcpR_ROWR)
theorem begin_l (c : Cn) (hc : CnLen c) : ACallL Tryz.prog 89 [.agg (cnR 0 c)] [.perm] (.ptr 1 0 0) [.perm, rsO (rsN 2 3 4 5 6 7 c.start), .uniq, .uniq, .uniq, .uniq, .uniq, .uniq] := by
  have cO := copyConn_l c hc
  unfold Cn.start
  dsimp only [cnR, cnL, cnG, rsN, spL] at cO ⊢
  refine ACallL.of_ev mixed Tryz.func89 rfl (fun a w => Tryz.call89 a w) (congrArg Array.toList Tryz.results89) Tryz.ntmps89 fun B hB => ?_
  ((conv => whnf); (repeat' ((first | (with_reducible first | refine qif_n ?_ | refine qif_t ‹_› ?_ | refine qif_f ‹_› ?_) | ((with_reducible refine qif_t ?_ ?_); focus decide) | ((with_reducible refine qif_f ?_ ?_); focus decide) | (with_reducible refine And.intro (orderOk_i ?ho) ?_; (case ho => kernel_rfl)) | (with_reducible first | refine qif_i (fun _ => ?_) (fun _ => ?_) | refine frcVs_i ?_ | refine frcRs_i ?_)) <;> (conv => whnf))))
  ((with_reducible refine qCall.of (cO) [] [(0, 0)] [] [(1, 2), (2, 3), (3, 4)] [(2, .uniq), (3, .uniq), (4, .uniq)] (.agg (cnG 2 3 4 c)) ?hk ?_); (case hk => rfl); (conv => whnf); (repeat (refine And.intro ?_ ?_; exact sideT; (conv => whnf))); (fail_if_success (with_reducible first | refine And.intro (eqv_i ?_) ?_ | refine And.intro (ren_i ?_) ?_)))
  ((conv => whnf); (repeat' ((first | (with_reducible first | refine qif_n ?_ | refine qif_t ‹_› ?_ | refine qif_f ‹_› ?_) | ((with_reducible refine qif_t ?_ ?_); focus decide) | ((with_reducible refine qif_f ?_ ?_); focus decide) | (with_reducible refine And.intro (orderOk_i ?ho) ?_; (case ho => kernel_rfl)) | (with_reducible first | refine qif_i (fun _ => ?_) (fun _ => ?_) | refine frcVs_i ?_ | refine frcRs_i ?_)) <;> (conv => whnf))))
  (refine qConv.of hB [(5, 1)] [(0, 0), (2, 2), (3, 3), (4, 4)] [] (by rfl) ?_; focus ((conv => whnf); (repeat (refine And.intro ?_ ?_; rotate_left; (conv => whnf))); exact trivial; all_goals (try exact andT)))
  all_goals (try (first | rfl | (refine RowsRen.one ?_; (repeat (refine Cells.cons ?_ ?_; focus (first | exact .val _ | exact Ren.g2 rfl _ | exact Ren.pg2 rfl rfl _ | exact Ren.vnil _ _ | exact Ren.vgnil _ _ | fail))); exact Cells.nil)))
end Go.Proofs.YtceohcbokbalhaaGreat

/- The host's copy, its segments with whom they are for: on data. Conditions: lengths. -/
namespace Go.Proofs.YtceohcbokbalhaaGreat
open Go.RowKit
set_option linter.unusedVariables false
set_option linter.unusedSimpArgs false
set_option maxRecDepth 100000
set_option maxHeartbeats 4000000
theorem sns_rr {L I F : Prs} {h : Hp} {r r' : Nat} (h0 : I.has r r' = true) (l : List (Int × Sg)) : RowsRen (qOf L I F) h (l.map (snR r)) (l.map (snR r')) :=
  RowsRen.mapF l _ _ fun p _ => .cons (.val _) (.cons (.val _) (.cons (.val _) (.cons (.val _) (.cons (.val _) (.cons (.val _) (.cons (.val _) (.cons (Ren.ll h0 p.2.data) .nil)))))))
theorem sns_gg {L I F : Prs} {h : Hp} {r r' : Nat} (h0 : I.has r r' = true) (l : List (Int × Sg)) : RowsRen (qOf L I F) h (l.map (snG r)) (l.map (snG r')) :=
  RowsRen.mapF l _ _ fun p _ => .cons (.val _) (.cons (.val _) (.cons (.val _) (.cons (.val _) (.cons (.val _) (.cons (.val _) (.cons (.val _) (.cons (Ren.gg h0 p.2.data) .nil)))))))
theorem to_l (ip : Int) (l : List Sg) (hl : l.length ≤ 100000) : ACallL Tryz.prog 62 [.val (.int .i64 ip), .list 1 7 (l.map (sgG 2))] [.perm, .perm, .perm] (.glist 3 8 ((toS ip l).map (snG 2))) [.perm, .perm, .perm, .uniq] := by
  have ll : (l.map (sgG 2)).length = l.length := by simp
  have e0 : toS ip l = l.map fun s => (ip, s) := rfl
  rw [e0]
  refine ACallL.of_ev mixed Tryz.func62 rfl (fun a w => Tryz.call62 a w) (congrArg Array.toList Tryz.results62) Tryz.ntmps62 fun B hB => ?_
  ((conv => whnf); (repeat' ((first | (with_reducible first | refine qif_n ?_ | refine qif_t ‹_› ?_ | refine qif_f ‹_› ?_) | ((with_reducible refine qif_t ?_ ?_); focus decide) | ((with_reducible refine qif_f ?_ ?_); focus decide) | (with_reducible refine And.intro (orderOk_i ?ho) ?_; (case ho => kernel_rfl)) | (with_reducible first | refine qif_i (fun _ => ?_) (fun _ => ?_) | refine frcVs_i ?_ | refine frcRs_i ?_)) <;> (conv => whnf))))
  refine qAW.loopE mixed (X := Nat) (fun k => slotsOf 21 [(0, .val (.int .i64 ip)), (4, .glist 3 8 (((l.take k).map fun s => (ip, s)).map (snG 2))), (7, .list 1 7 (l.map (sgG 2))), (8, .val (.int .i64 (l.map (sgG 2)).length)), (9, .val (.int .i64 k))]) (fun k => [.perm, .perm, .perm, .uniq])
    (fun k => k ≤ l.length) (fun k => l.length - k) 0 (Nat.zero_le _) ?_ ?_
  · (refine qConv.of hB [] [(0, 0), (1, 1), (2, 2)] [] (by rfl) ?_; focus ((conv => whnf); (repeat (refine And.intro ?_ ?_; rotate_left; (conv => whnf))); exact trivial; all_goals (try exact andT)))
    all_goals first | rfl | exact segs_gg rfl _
  · rintro E k hk hE
    by_cases hlt : k < l.length
    · obtain ⟨c, hc⟩ : ∃ p, l[k]? = some p := ⟨_, List.getElem?_eq_getElem hlt⟩
      have hrow : (l.map (sgG 2))[(k : Int).toNat]? = some (sgG 2 c) := by simp [hc]
      have w := IntWalk.i64_in (k + 1) (by omega)
      have hb : (((l.take k).map fun s => (ip, s)).map (snG 2)).length + 1 ≤ 100001 := by simp; omega
      have hap : ((l.take k).map fun s => (ip, s)).map (snG 2) ++ [snG 2 (ip, c)] = ((l.take (k + 1)).map fun s => (ip, s)).map (snG 2) := by rw [take_snoc hc]; simp
      subst hE
      ((conv => whnf); (repeat' ((first | (with_reducible first | refine qif_n ?_ | refine qif_t ‹_› ?_ | refine qif_f ‹_› ?_) | ((with_reducible refine qif_t ?_ ?_); focus decide) | ((with_reducible refine qif_f ?_ ?_); focus decide) | (with_reducible refine And.intro (orderOk_i ?ho) ?_; (case ho => kernel_rfl)) | ((with_reducible refine qif_t ?_ ?_); focus (simp [hlt]; done)) | ((with_reducible refine qif_f ?_ ?_); focus (simp [hlt]; done)) | (with_reducible first | refine qif_i (fun _ => ?_) (fun _ => ?_) | refine frcVs_i ?_ | refine frcRs_i ?_) | (refine qCase_i (idxL rfl rfl rfl rfl rfl rfl (by omega) hrow) ?_) | (refine qCase_i (apG' (nb := 80) rfl rfl rfl rfl rfl rfl rfl rfl rfl rfl (by decide) rfl (Nat.le_trans (Nat.mul_le_mul_right _ hb) (by decide)) hap) ?_)) <;> (conv => whnf))))
      refine ⟨k + 1, by omega, by omega, ?_⟩
      (refine qConv.of hB [] [(0, 0), (1, 1), (2, 2), (6, 3)] [] (by rfl) ?_; focus ((conv => whnf); (repeat (refine And.intro ?_ ?_; rotate_left; (conv => whnf))); exact trivial; all_goals (try exact andT)))
      all_goals first | rfl | exact sns_gg rfl _ | exact segs_gg rfl _ | (simp [w]; done)
    · have e : l.take k = l := List.take_of_length_le (by omega)
      rw [e]
      subst hE
      ((conv => whnf); (repeat' ((first | (with_reducible first | refine qif_n ?_ | refine qif_t ‹_› ?_ | refine qif_f ‹_› ?_) | ((with_reducible refine qif_t ?_ ?_); focus decide) | ((with_reducible refine qif_f ?_ ?_); focus decide) | (with_reducible refine And.intro (orderOk_i ?ho) ?_; (case ho => kernel_rfl)) | ((with_reducible refine qif_t ?_ ?_); focus (simp [hlt]; done)) | ((with_reducible refine qif_f ?_ ?_); focus (simp [hlt]; done)) | (with_reducible first | refine qif_i (fun _ => ?_) (fun _ => ?_) | refine frcVs_i ?_ | refine frcRs_i ?_)) <;> (conv => whnf))))
      (refine qConv.of hB [] [(0, 0), (1, 1), (2, 2), (3, 3)] [] (by rfl) ?_; focus ((conv => whnf); (repeat (refine And.intro ?_ ?_; rotate_left; (conv => whnf))); exact trivial; all_goals (try exact andT)))
      all_goals first | rfl | exact sns_gg rfl _
theorem toN_l (ip : Int) (m : Sg) : ACallL Tryz.prog 62 [.val (.int .i64 ip), .list 1 7 [sgL (.val (.slice none 0 0)) m]] [.perm, .perm] (.glist 2 8 [.val (.int .i64 ip) :: sgL (.val (.slice none 0 0)) m]) [.perm, .perm, .uniq] := by
  have w2 : decide (IntKind.i64.wrap (0 + 1) < ((([sgL (AV.val (Value.slice none 0 0)) m] : List (List AV)).length : Nat) : Int)) = false := by
    rw [show IntKind.i64.wrap (0 + 1) = 1 by decide]; rfl
  refine ACallL.of_ev mixed Tryz.func62 rfl (fun a w => Tryz.call62 a w) (congrArg Array.toList Tryz.results62) Tryz.ntmps62 fun B hB => ?_
  ((conv => whnf); (repeat' ((first | (with_reducible first | refine qif_n ?_ | refine qif_t ‹_› ?_ | refine qif_f ‹_› ?_) | ((with_reducible refine qif_t ?_ ?_); focus decide) | ((with_reducible refine qif_f ?_ ?_); focus decide) | (with_reducible refine And.intro (orderOk_i ?ho) ?_; (case ho => kernel_rfl)) | ((with_reducible refine qif_t ?_ ?_); focus (simp []; done)) | ((with_reducible refine qif_f ?_ ?_); focus (simp []; done)) | (with_reducible first | refine qif_i (fun _ => ?_) (fun _ => ?_) | refine frcVs_i ?_ | refine frcRs_i ?_) | (refine qAW.unroll mixed 2 ?_)) <;> (conv => whnf))))
  all_goals (refine qConv.of hB [] [(0, 0), (1, 1)] [(4, 2)] (by rfl) ?_; focus ((conv => whnf); (repeat (refine And.intro ?_ ?_; rotate_left; (conv => whnf))); exact trivial; all_goals (try exact andT)))
  all_goals first | rfl | exact RowsRen.vals rfl rfl | (exact rowsT)
end Go.Proofs.YtceohcbokbalhaaGreat

/- Contracts and plain laws, one behind the other: AhHoR, AhHoK, AhHoG, AhHoA. Conditions are said at each. -/
import Derived.Test.YtceohcbokbalhaaGreatPkAR
import Derived.Test.YtceohcbokbalhaaGreatPkAM
import Derived.Test.YtceohcbokbalhaaGreatPkAN
/- The page's host takes a segment: on data. Conditions: what may be. -/
-- sideX: first | exact cns_bor rfl rfl rfl _ rfl | exact hsRow_r rfl rfl rfl (cns_gp rfl rfl rfl _) (sns_rr rfl _) (hds_rr rfl _) | exact hsRow_r rfl rfl rfl (cns_pp rfl rfl rfl _) (sns_rr rfl _) (hds_rr rfl _) | exact hsRow_r rfl rfl rfl (cns_gp rfl rfl rfl _) (sns_rr (r := 9) rfl []) (hds_rr (r := 11) rfl []) | exact hsRow_r rfl rfl rfl (cns_pp rfl rfl rfl _) (sns_rr rfl _) (hds_rr (r := 11) rfl []) | exact hsRow_r rfl rfl rfl (cns_gp rfl rfl rfl _) (sns_rr (r := 9) rfl []) (hds_rr rfl [_])
namespace Go.Proofs.YtceohcbokbalhaaGreat
open Go.RowKit
set_option linter.unusedVariables false
set_option linter.unusedSimpArgs false
set_option maxRecDepth 100000
set_option maxHeartbeats 4000000
abbrev rhH (y : Hs) : List Own := [.perm, hsO (hsRow 2 3 4 5 6 7 8 9 y), .uniq, .uniq, .uniq, .uniq, .uniq, .uniq, .uniq, .uniq]
section
variable {L I F : Prs} {h : Hp}
theorem hs0_vg {c c' s' h' : Nat} {count : Int} {C C' : List (List AV)} (h0 : I.has c c' = true) (r1 : RowsRen (qOf L I F) h C C') :
    RowsRen (qOf L I F) h [[.glist c 16 C, .val (.int .i64 count), .val (.slice none 0 0), .val (.slice none 0 0)]] [[.glist c' 16 C', .val (.int .i64 count), .glist s' 8 [], .glist h' 3 []]] :=
  RowsRen.one (.cons (Ren.glR h0 r1) (.cons (.val _) (.cons (Ren.vgnil _ _) (.cons (Ren.vgnil _ _) .nil))))
theorem hs0_r {c c' s s' hh h' : Nat} {count : Int} {C C' : List (List AV)} (h0 : I.has c c' = true) (h1 : I.has s s' = true) (h2 : I.has hh h' = true) (r1 : RowsRen (qOf L I F) h C C') :
    RowsRen (qOf L I F) h [[.glist c 16 C, .val (.int .i64 count), .glist s 8 [], .glist hh 3 []]] [[.glist c' 16 C', .val (.int .i64 count), .glist s' 8 [], .glist h' 3 []]] := hsRow_r h0 h1 h2 r1 RowsRen.nil RowsRen.nil
end
end Go.Proofs.YtceohcbokbalhaaGreat

/- The page's host: a connection is sent on, closed, aborted: on data. Conditions: what may be. -/
-- sideX: first | exact cns_bor rfl rfl rfl _ rfl | exact hsRow_r rfl rfl rfl (cns_gp rfl rfl rfl _) (sns_rr rfl _) (hds_rr rfl _) | exact hsRow_r rfl rfl rfl (cns_pp rfl rfl rfl _) (sns_rr rfl _) (hds_rr rfl _) | exact hsRow_r rfl rfl rfl (cns_gp rfl rfl rfl _) (sns_rr (r := 8) rfl []) (hds_rr (r := 10) rfl []) | exact hsRow_r rfl rfl rfl (cns_pp rfl rfl rfl _) (sns_rr rfl _) (hds_rr (r := 10) rfl []) | exact hsRow_r rfl rfl rfl (cns_gp rfl rfl rfl _) (sns_rr (r := 8) rfl []) (hds_rr rfl [_])
namespace Go.Proofs.YtceohcbokbalhaaGreat
open Go.RowKit
set_option linter.unusedVariables false
set_option linter.unusedSimpArgs false
set_option maxRecDepth 100000
set_option maxHeartbeats 4000000
theorem dt_AhHoK_ROWK {p : Prop} (h : p := by first | ((first | rfl | exact hs0_vg rfl (cns_gg rfl rfl rfl _) | exact hs0_r rfl rfl rfl (cns_gg rfl rfl rfl _) | exact RowsRen.one (cn_rr rfl _) | (exact rowsT)); done) | fail) : p := h
theorem rHostAbort_l (l : List Cn) (count link : Int) (H : HoI ⟨l, count⟩) {i : Nat} {c : Cn} (ha : Ho.at_ ⟨l, count⟩ link = some i) (hci : l[i]? = some c) :
    ACallL Tryz.prog 28 [.agg (hoR ⟨l, count⟩), .val (.int .i64 link)] [.perm] (.tup [.ptr 1 0 0, .val (.int .i64 0)]) (rhH ⟨Ho.put ⟨l, count⟩ i (c.aborts).c, toS c.ip (c.aborts).out, []⟩) := by
  have px := pl_cns l
  have hl := H.len
  dsimp only at hl
  have ll : (l.map (cnR 0)).length = l.length := by simp
  have hcl : ∀ d ∈ l, CnLen d := fun d hd => (H.ok d hd).1.I.cnLen
  have cC := copyHost_l ⟨l, count⟩ (by dsimp only; omega) hcl
  have hI := (H.ok c (List.mem_of_getElem? hci)).1.I
  have cS := rAbort_l c ((cnB_iff c).2 hI)
  have hS := (abort_I hI).2
  obtain ⟨y, hy⟩ : ∃ y, c.aborts = y := ⟨_, rfl⟩
  rw [hy] at cS hS ⊢
  have cF := rFind_l ⟨l, count⟩ link (by dsimp only; omega)
  rw [ha] at cF
  dsimp only [idxJ, hoR] at cF
  have hrow : (l.map (cnR 0))[(i : Int).toNat]? = some (cnR 0 c) := by simp [hci]
  have hlt : i < l.length := (List.getElem?_eq_some_iff.1 hci).1
  have hn : decide ((i : Int) < 0) = false := by simp
  have cP := hput_l ⟨⟨l, count⟩, [], []⟩ i y hlt (by dsimp only; omega) hcl (by have := hS.cnt; simp; omega)
  obtain ⟨z, hz⟩ : ∃ z, (⟨Ho.put ⟨l, count⟩ i y.c, toS c.ip y.out, []⟩ : Hs) = z := ⟨_, rfl⟩
  have hpc : putX ⟨⟨l, count⟩, [], []⟩ i y = z := by rw [← hz]; unfold putX; rw [hS.e2]; rfl
  rw [hpc] at cP
  rw [hz]
  dsimp only [putL0, putL1, hsRow, rsN] at cP
  dsimp only [cnR, cnL] at cS
  dsimp only [hoR] at cC ⊢
  dsimp only [rhH, hsRow]
  refine ACallL.of_AWs Tryz.func28 rfl (fun a w => Tryz.call28 a w) (congrArg Array.toList Tryz.results28) Tryz.ntmps28 (by simp only [spine, List.cons_append, List.nil_append, List.append_assoc]; rfl) fun B hB => ?_
  refine qAWs.cut mixed 5 (by simp only [List.take_succ_cons, List.take_zero]; rfl) (by simp only [List.drop_succ_cons, List.drop_zero]; rfl) (by simp only [chain]; rfl) rfl (X := Unit) (fun _ => slotsOf 27 [(2, .ptr 1 0 0), (6, .val (.int .i64 i)), (7, .ptr 6 0 0)]) (fun _ => [.perm, .live ⟨2, 24, [[.list 0 16 (l.map (cnR 0)), .val (.int .i64 count)]]⟩, .uniq, .uniq, .uniq, .uniq, hsO [.glist 2 16 (l.map (cnG 3 4 5)), .val (.int .i64 count), .glist 7 8 [], .glist 9 3 []], .uniq, .uniq, .uniq, .uniq]) (fun _ => True) ?_ ?_
  · ((conv => whnf); (repeat' ((first | (with_reducible first | refine qif_n ?_ | refine qif_t ‹_› ?_ | refine qif_f ‹_› ?_) | ((with_reducible refine qif_t ?_ ?_); focus decide) | ((with_reducible refine qif_f ?_ ?_); focus decide) | (with_reducible refine And.intro (orderOk_i ?ho) ?_; (case ho => kernel_rfl)) | ((with_reducible refine qif_t ?_ ?_); focus (simp [hlt]; done)) | ((with_reducible refine qif_f ?_ ?_); focus (simp [hlt]; done)) | (with_reducible first | refine qif_i (fun _ => ?_) (fun _ => ?_) | refine frcVs_i ?_ | refine frcRs_i ?_) | ((with_reducible refine qCall.pure (cF) ?_ ?_ ?_ ?_); rotate_left 4; exact trivial; exact plT; exact plT) | (((with_reducible refine qCall.of (cC) [] [(0, 0)] [] [(1, 2), (2, 3), (3, 4), (4, 5)] [(2, .uniq), (3, .uniq), (4, .uniq), (5, .uniq)] (.agg [.glist 2 16 (l.map (cnG 3 4 5)), .val (.int .i64 count)]) ?hk ?_); (case hk => rfl); (conv => whnf); (repeat (refine And.intro ?_ ?_; (focus (first | exact sideT | (first | exact cns_bor rfl rfl rfl _ rfl | exact hsRow_r rfl rfl rfl (cns_gp rfl rfl rfl _) (sns_rr rfl _) (hds_rr rfl _) | exact hsRow_r rfl rfl rfl (cns_pp rfl rfl rfl _) (sns_rr rfl _) (hds_rr rfl _) | exact hsRow_r rfl rfl rfl (cns_gp rfl rfl rfl _) (sns_rr (r := 8) rfl []) (hds_rr (r := 10) rfl []) | exact hsRow_r rfl rfl rfl (cns_pp rfl rfl rfl _) (sns_rr rfl _) (hds_rr (r := 10) rfl []) | exact hsRow_r rfl rfl rfl (cns_gp rfl rfl rfl _) (sns_rr (r := 8) rfl []) (hds_rr rfl [_])))); (conv => whnf))); (fail_if_success (with_reducible first | refine And.intro (eqv_i ?_) ?_ | refine And.intro (ren_i ?_) ?_))))) <;> (conv => whnf))))
    refine ⟨(), trivial, ?_⟩
    (refine qConv.of hB [(1, 1), (6, 6)] [(0, 0), (2, 2), (3, 3), (4, 4), (5, 5)] [] (by rfl) ?_; focus ((conv => whnf); (repeat (refine And.intro ?_ ?_; rotate_left; (conv => whnf))); exact trivial; all_goals (try exact andT)))
    all_goals (try exact dt_AhHoK_ROWK)
    all_goals trace_state
  rintro ⟨⟩ -
  (try dsimp only)
  refine qAWs.fin mixed (by simp only [chain]; rfl) ?_
  ((conv => whnf); (repeat' ((first | (with_reducible first | refine qif_n ?_ | refine qif_t ‹_› ?_ | refine qif_f ‹_› ?_) | ((with_reducible refine qif_t ?_ ?_); focus decide) | ((with_reducible refine qif_f ?_ ?_); focus decide) | (with_reducible refine And.intro (orderOk_i ?ho) ?_; (case ho => kernel_rfl)) | ((with_reducible refine qif_t ?_ ?_); focus (simp [hlt]; done)) | ((with_reducible refine qif_f ?_ ?_); focus (simp [hlt]; done)) | (with_reducible first | refine qif_i (fun _ => ?_) (fun _ => ?_) | refine frcVs_i ?_ | refine frcRs_i ?_) | (refine qCase_i (idxL rfl rfl rfl rfl rfl rfl (by omega) hrow) ?_) | (((with_reducible refine qCall.of (cS) [] [(0, 0)] [] [(1, 11), (2, 12), (3, 13), (4, 14), (5, 15), (6, 16), (7, 17)] [(11, rsO (rsN 12 13 14 15 16 17 y)), (12, .uniq), (13, .uniq), (14, .uniq), (15, .uniq), (16, .uniq), (17, .uniq)] (.ptr 11 0 0) ?hk ?_); (case hk => rfl); (conv => whnf); (repeat (refine And.intro ?_ ?_; (focus (first | exact sideT | (first | exact cns_bor rfl rfl rfl _ rfl | exact hsRow_r rfl rfl rfl (cns_gp rfl rfl rfl _) (sns_rr rfl _) (hds_rr rfl _) | exact hsRow_r rfl rfl rfl (cns_pp rfl rfl rfl _) (sns_rr rfl _) (hds_rr rfl _) | exact hsRow_r rfl rfl rfl (cns_gp rfl rfl rfl _) (sns_rr (r := 8) rfl []) (hds_rr (r := 10) rfl []) | exact hsRow_r rfl rfl rfl (cns_pp rfl rfl rfl _) (sns_rr rfl _) (hds_rr (r := 10) rfl []) | exact hsRow_r rfl rfl rfl (cns_gp rfl rfl rfl _) (sns_rr (r := 8) rfl []) (hds_rr rfl [_])))); (conv => whnf))); (fail_if_success (with_reducible first | refine And.intro (eqv_i ?_) ?_ | refine And.intro (ren_i ?_) ?_)))) | (((with_reducible refine qCall.ofX (cP) [(1, 6), (10, 11)] [(0, 0), (2, 2), (3, 3), (4, 4), (5, 5), (6, 7), (7, 8), (8, 9), (9, 10), (11, 12), (12, 13), (13, 14), (14, 15), (15, 16), (16, 17)] [] [(17, 18), (18, 19), (19, 20), (20, 21), (21, 22), (22, 23)] [(6, hsO (hsRow 18 19 20 21 22 23 9 10 z)), (2, .dead), (3, .dead), (4, .dead), (5, .dead), (7, .dead), (8, .dead), (11, .dead), (12, .dead), (13, .dead), (14, .dead), (17, .dead), (18, .uniq), (19, .uniq), (20, .uniq), (21, .uniq), (22, .uniq), (23, .uniq)] (.tup []) [(1, 6)] [(17, 18), (18, 19), (19, 20), (20, 21), (21, 22), (22, 23), (0, 0), (8, 9), (9, 10), (14, 15), (15, 16)] [(2, 2), (3, 3), (4, 4), (5, 5), (6, 7), (7, 8), (11, 12), (12, 13), (13, 14), (16, 17)] ?hk ?h1 ?h2 ?h3 ?_); (case hk => kernel_rfl); (case h1 => kernel_rfl); (case h2 => kernel_rfl); (case h3 => kernel_rfl); (conv => whnf); (repeat (refine And.intro ?_ ?_; (focus (first | exact sideT | (first | exact cns_bor rfl rfl rfl _ rfl | exact hsRow_r rfl rfl rfl (cns_gp rfl rfl rfl _) (sns_rr rfl _) (hds_rr rfl _) | exact hsRow_r rfl rfl rfl (cns_pp rfl rfl rfl _) (sns_rr rfl _) (hds_rr rfl _) | exact hsRow_r rfl rfl rfl (cns_gp rfl rfl rfl _) (sns_rr (r := 8) rfl []) (hds_rr (r := 10) rfl []) | exact hsRow_r rfl rfl rfl (cns_pp rfl rfl rfl _) (sns_rr rfl _) (hds_rr (r := 10) rfl []) | exact hsRow_r rfl rfl rfl (cns_gp rfl rfl rfl _) (sns_rr (r := 8) rfl []) (hds_rr rfl [_])))); (conv => whnf))); (fail_if_success (with_reducible first | refine And.intro (eqv_i ?_) ?_ | refine And.intro (ren_i ?_) ?_))))) <;> (conv => whnf))))
  (refine qConv.of hB [(6, 1)] [(0, 0), (18, 2), (19, 3), (20, 4), (21, 5), (22, 6), (23, 7), (9, 8), (10, 9)] [] (by rfl) ?_; focus ((conv => whnf); (repeat (refine And.intro ?_ ?_; rotate_left; (conv => whnf))); exact trivial; all_goals (try exact andT)))
  all_goals first | rfl  | exact hsRow_r rfl rfl rfl (cns_pp rfl rfl rfl _) (sns_rr rfl _) (hds_rr rfl _) | trace_state
theorem rHostClose_l (l : List Cn) (count link : Int) (H : HoI ⟨l, count⟩) {i : Nat} {c : Cn} (ha : Ho.at_ ⟨l, count⟩ link = some i) (hci : l[i]? = some c) (he : c.closeE = 0) :
    ACallL Tryz.prog 26 [.agg (hoR ⟨l, count⟩), .val (.int .i64 link)] [.perm] (.tup [.ptr 1 0 0, .val (.int .i64 0)]) (rhH ⟨Ho.put ⟨l, count⟩ i (c.closes).c, toS c.ip (c.closes).out, []⟩) := by
  have px := pl_cns l
  have hl := H.len
  dsimp only at hl
  have ll : (l.map (cnR 0)).length = l.length := by simp
  have hcl : ∀ d ∈ l, CnLen d := fun d hd => (H.ok d hd).1.I.cnLen
  have cC := copyHost_l ⟨l, count⟩ (by dsimp only; omega) hcl
  have hI := (H.ok c (List.mem_of_getElem? hci)).1.I
  have cS := rClose_l c ((cnB_iff c).2 hI) he
  have hS := (close_I hI he).2
  obtain ⟨y, hy⟩ : ∃ y, c.closes = y := ⟨_, rfl⟩
  rw [hy] at cS hS ⊢
  have cF := rFind_l ⟨l, count⟩ link (by dsimp only; omega)
  rw [ha] at cF
  dsimp only [idxJ, hoR] at cF
  have hrow : (l.map (cnR 0))[(i : Int).toNat]? = some (cnR 0 c) := by simp [hci]
  have hlt : i < l.length := (List.getElem?_eq_some_iff.1 hci).1
  have hn : decide ((i : Int) < 0) = false := by simp
  have cP := hput_l ⟨⟨l, count⟩, [], []⟩ i y hlt (by dsimp only; omega) hcl (by have := hS.cnt; simp; omega)
  obtain ⟨z, hz⟩ : ∃ z, (⟨Ho.put ⟨l, count⟩ i y.c, toS c.ip y.out, []⟩ : Hs) = z := ⟨_, rfl⟩
  have hpc : putX ⟨⟨l, count⟩, [], []⟩ i y = z := by rw [← hz]; unfold putX; rw [hS.e2]; rfl
  rw [hpc] at cP
  rw [hz]
  dsimp only [putL0, putL1, hsRow, rsN] at cP
  dsimp only [cnR, cnL] at cS
  dsimp only [hoR] at cC ⊢
  dsimp only [rhH, hsRow]
  refine ACallL.of_AWs Tryz.func26 rfl (fun a w => Tryz.call26 a w) (congrArg Array.toList Tryz.results26) Tryz.ntmps26 (by simp only [spine, List.cons_append, List.nil_append, List.append_assoc]; rfl) fun B hB => ?_
  refine qAWs.cut mixed 8 (by simp only [List.take_succ_cons, List.take_zero]; rfl) (by simp only [List.drop_succ_cons, List.drop_zero]; rfl) (by simp only [chain]; rfl) rfl (X := Unit) (fun _ => slotsOf 36 [(2, .ptr 1 0 0), (6, .val (.int .i64 i)), (7, .ptr 11 0 0), (9, .ptr 6 0 0)]) (fun _ => [.perm, .live ⟨2, 24, [[.list 0 16 (l.map (cnR 0)), .val (.int .i64 count)]]⟩, .uniq, .uniq, .uniq, .uniq, hsO [.glist 2 16 (l.map (cnG 3 4 5)), .val (.int .i64 count), .glist 7 8 [], .glist 9 3 []], .uniq, .uniq, .uniq, .uniq, rsO (rsN 12 13 14 15 16 17 y), .uniq, .uniq, .uniq, .uniq, .uniq, .uniq]) (fun _ => True) ?_ ?_
  · ((conv => whnf); (repeat' ((first | (with_reducible first | refine qif_n ?_ | refine qif_t ‹_› ?_ | refine qif_f ‹_› ?_) | ((with_reducible refine qif_t ?_ ?_); focus decide) | ((with_reducible refine qif_f ?_ ?_); focus decide) | (with_reducible refine And.intro (orderOk_i ?ho) ?_; (case ho => kernel_rfl)) | ((with_reducible refine qif_t ?_ ?_); focus (simp [hlt]; done)) | ((with_reducible refine qif_f ?_ ?_); focus (simp [hlt]; done)) | (with_reducible first | refine qif_i (fun _ => ?_) (fun _ => ?_) | refine frcVs_i ?_ | refine frcRs_i ?_) | ((with_reducible refine qCall.pure (cF) ?_ ?_ ?_ ?_); rotate_left 4; exact trivial; exact plT; exact plT) | (refine qCase_i (idxL rfl rfl rfl rfl rfl rfl (by omega) hrow) ?_) | (((with_reducible refine qCall.of (cS) [] [(0, 0)] [] [(1, 2), (2, 3), (3, 4), (4, 5), (5, 6), (6, 7), (7, 8)] [(2, rsO (rsN 3 4 5 6 7 8 y)), (3, .uniq), (4, .uniq), (5, .uniq), (6, .uniq), (7, .uniq), (8, .uniq)] (.tup [.ptr 2 0 0, .val (.int .i64 0)]) ?hk ?_); (case hk => rfl); (conv => whnf); (repeat (refine And.intro ?_ ?_; (focus (first | exact sideT | (first | exact cns_bor rfl rfl rfl _ rfl | exact hsRow_r rfl rfl rfl (cns_gp rfl rfl rfl _) (sns_rr rfl _) (hds_rr rfl _) | exact hsRow_r rfl rfl rfl (cns_pp rfl rfl rfl _) (sns_rr rfl _) (hds_rr rfl _) | exact hsRow_r rfl rfl rfl (cns_gp rfl rfl rfl _) (sns_rr (r := 8) rfl []) (hds_rr (r := 10) rfl []) | exact hsRow_r rfl rfl rfl (cns_pp rfl rfl rfl _) (sns_rr rfl _) (hds_rr (r := 10) rfl []) | exact hsRow_r rfl rfl rfl (cns_gp rfl rfl rfl _) (sns_rr (r := 8) rfl []) (hds_rr rfl [_])))); (conv => whnf))); (fail_if_success (with_reducible first | refine And.intro (eqv_i ?_) ?_ | refine And.intro (ren_i ?_) ?_)))) | (((with_reducible refine qCall.of (cC) [] [(0, 0)] [] [(1, 9), (2, 10), (3, 11), (4, 12)] [(9, .uniq), (10, .uniq), (11, .uniq), (12, .uniq)] (.agg [.glist 9 16 (l.map (cnG 10 11 12)), .val (.int .i64 count)]) ?hk ?_); (case hk => rfl); (conv => whnf); (repeat (refine And.intro ?_ ?_; (focus (first | exact sideT | (first | exact cns_bor rfl rfl rfl _ rfl | exact hsRow_r rfl rfl rfl (cns_gp rfl rfl rfl _) (sns_rr rfl _) (hds_rr rfl _) | exact hsRow_r rfl rfl rfl (cns_pp rfl rfl rfl _) (sns_rr rfl _) (hds_rr rfl _) | exact hsRow_r rfl rfl rfl (cns_gp rfl rfl rfl _) (sns_rr (r := 8) rfl []) (hds_rr (r := 10) rfl []) | exact hsRow_r rfl rfl rfl (cns_pp rfl rfl rfl _) (sns_rr rfl _) (hds_rr (r := 10) rfl []) | exact hsRow_r rfl rfl rfl (cns_gp rfl rfl rfl _) (sns_rr (r := 8) rfl []) (hds_rr rfl [_])))); (conv => whnf))); (fail_if_success (with_reducible first | refine And.intro (eqv_i ?_) ?_ | refine And.intro (ren_i ?_) ?_))))) <;> (conv => whnf))))
    refine ⟨(), trivial, ?_⟩
    (refine qConv.of hB [(1, 1), (2, 11), (13, 6)] [(0, 0), (3, 12), (4, 13), (5, 14), (6, 15), (7, 16), (8, 17), (9, 2), (10, 3), (11, 4), (12, 5)] [] (by rfl) ?_; focus ((conv => whnf); (repeat (refine And.intro ?_ ?_; rotate_left; (conv => whnf))); exact trivial; all_goals (try exact andT)))
    all_goals (try exact dt_AhHoK_ROWK)
    all_goals trace_state
  rintro ⟨⟩ -
  (try dsimp only)
  refine qAWs.fin mixed (by simp only [chain]; rfl) ?_
  ((conv => whnf); (repeat' ((first | (with_reducible first | refine qif_n ?_ | refine qif_t ‹_› ?_ | refine qif_f ‹_› ?_) | ((with_reducible refine qif_t ?_ ?_); focus decide) | ((with_reducible refine qif_f ?_ ?_); focus decide) | (with_reducible refine And.intro (orderOk_i ?ho) ?_; (case ho => kernel_rfl)) | ((with_reducible refine qif_t ?_ ?_); focus (simp [hlt]; done)) | ((with_reducible refine qif_f ?_ ?_); focus (simp [hlt]; done)) | (with_reducible first | refine qif_i (fun _ => ?_) (fun _ => ?_) | refine frcVs_i ?_ | refine frcRs_i ?_) | (((with_reducible refine qCall.ofX (cP) [(1, 6), (10, 11)] [(0, 0), (2, 2), (3, 3), (4, 4), (5, 5), (6, 7), (7, 8), (8, 9), (9, 10), (11, 12), (12, 13), (13, 14), (14, 15), (15, 16), (16, 17)] [] [(17, 18), (18, 19), (19, 20), (20, 21), (21, 22), (22, 23)] [(6, hsO (hsRow 18 19 20 21 22 23 9 10 z)), (2, .dead), (3, .dead), (4, .dead), (5, .dead), (7, .dead), (8, .dead), (11, .dead), (12, .dead), (13, .dead), (14, .dead), (17, .dead), (18, .uniq), (19, .uniq), (20, .uniq), (21, .uniq), (22, .uniq), (23, .uniq)] (.tup []) [(1, 6)] [(17, 18), (18, 19), (19, 20), (20, 21), (21, 22), (22, 23), (0, 0), (8, 9), (9, 10), (14, 15), (15, 16)] [(2, 2), (3, 3), (4, 4), (5, 5), (6, 7), (7, 8), (11, 12), (12, 13), (13, 14), (16, 17)] ?hk ?h1 ?h2 ?h3 ?_); (case hk => kernel_rfl); (case h1 => kernel_rfl); (case h2 => kernel_rfl); (case h3 => kernel_rfl); (conv => whnf); (repeat (refine And.intro ?_ ?_; (focus (first | exact sideT | (first | exact cns_bor rfl rfl rfl _ rfl | exact hsRow_r rfl rfl rfl (cns_gp rfl rfl rfl _) (sns_rr rfl _) (hds_rr rfl _) | exact hsRow_r rfl rfl rfl (cns_pp rfl rfl rfl _) (sns_rr rfl _) (hds_rr rfl _) | exact hsRow_r rfl rfl rfl (cns_gp rfl rfl rfl _) (sns_rr (r := 8) rfl []) (hds_rr (r := 10) rfl []) | exact hsRow_r rfl rfl rfl (cns_pp rfl rfl rfl _) (sns_rr rfl _) (hds_rr (r := 10) rfl []) | exact hsRow_r rfl rfl rfl (cns_gp rfl rfl rfl _) (sns_rr (r := 8) rfl []) (hds_rr rfl [_])))); (conv => whnf))); (fail_if_success (with_reducible first | refine And.intro (eqv_i ?_) ?_ | refine And.intro (ren_i ?_) ?_))))) <;> (conv => whnf))))
  (refine qConv.of hB [(6, 1)] [(0, 0), (18, 2), (19, 3), (20, 4), (21, 5), (22, 6), (23, 7), (9, 8), (10, 9)] [] (by rfl) ?_; focus ((conv => whnf); (repeat (refine And.intro ?_ ?_; rotate_left; (conv => whnf))); exact trivial; all_goals (try exact andT)))
  all_goals first | rfl  | exact hsRow_r rfl rfl rfl (cns_pp rfl rfl rfl _) (sns_rr rfl _) (hds_rr rfl _) | trace_state
theorem rHostSend_l (l : List Cn) (count link : Int) (xs : List Int) (H : HoI ⟨l, count⟩) {i : Nat} {c : Cn} (ha : Ho.at_ ⟨l, count⟩ link = some i) (hci : l[i]? = some c) (he : c.sendE xs = 0) :
    ACallL Tryz.prog 23 [.agg (hoR ⟨l, count⟩), .val (.int .i64 link), bL 0 xs] [.perm] (.tup [.ptr 1 0 0, .val (.int .i64 0)]) (rhH ⟨Ho.put ⟨l, count⟩ i (c.sends xs).c, toS c.ip (c.sends xs).out, []⟩) := by
  have px := pl_cns l
  have pz := pl_bytes xs
  have hl := H.len
  dsimp only at hl
  have ll : (l.map (cnR 0)).length = l.length := by simp
  have hcl : ∀ d ∈ l, CnLen d := fun d hd => (H.ok d hd).1.I.cnLen
  have cC := copyHost_l ⟨l, count⟩ (by dsimp only; omega) hcl
  have hI := (H.ok c (List.mem_of_getElem? hci)).1.I
  have cS := rSend_l c xs ((cnB_iff c).2 hI) he
  have hS := (send_I hI he).2
  obtain ⟨y, hy⟩ : ∃ y, c.sends xs = y := ⟨_, rfl⟩
  rw [hy] at cS hS ⊢
  have cF := rFind_l ⟨l, count⟩ link (by dsimp only; omega)
  rw [ha] at cF
  dsimp only [idxJ, hoR] at cF
  have hrow : (l.map (cnR 0))[(i : Int).toNat]? = some (cnR 0 c) := by simp [hci]
  have hlt : i < l.length := (List.getElem?_eq_some_iff.1 hci).1
  have hn : decide ((i : Int) < 0) = false := by simp
  have cP := hput_l ⟨⟨l, count⟩, [], []⟩ i y hlt (by dsimp only; omega) hcl (by have := hS.cnt; simp; omega)
  obtain ⟨z, hz⟩ : ∃ z, (⟨Ho.put ⟨l, count⟩ i y.c, toS c.ip y.out, []⟩ : Hs) = z := ⟨_, rfl⟩
  have hpc : putX ⟨⟨l, count⟩, [], []⟩ i y = z := by rw [← hz]; unfold putX; rw [hS.e2]; rfl
  rw [hpc] at cP
  rw [hz]
  dsimp only [putL0, putL1, hsRow, rsN] at cP
  dsimp only [cnR, cnL] at cS
  dsimp only [hoR] at cC ⊢
  dsimp only [rhH, hsRow]
  refine ACallL.of_AWs Tryz.func23 rfl (fun a w => Tryz.call23 a w) (congrArg Array.toList Tryz.results23) Tryz.ntmps23 (by simp only [spine, List.cons_append, List.nil_append, List.append_assoc]; rfl) fun B hB => ?_
  refine qAWs.cut mixed 8 (by simp only [List.take_succ_cons, List.take_zero]; rfl) (by simp only [List.drop_succ_cons, List.drop_zero]; rfl) (by simp only [chain]; rfl) rfl (X := Unit) (fun _ => slotsOf 39 [(3, .ptr 1 0 0), (8, .val (.int .i64 i)), (9, .ptr 11 0 0), (11, .ptr 6 0 0)]) (fun _ => [.perm, .live ⟨2, 24, [[.list 0 16 (l.map (cnR 0)), .val (.int .i64 count)]]⟩, .uniq, .uniq, .uniq, .uniq, hsO [.glist 2 16 (l.map (cnG 3 4 5)), .val (.int .i64 count), .glist 7 8 [], .glist 9 3 []], .uniq, .uniq, .uniq, .uniq, rsO (rsN 12 13 14 15 16 17 y), .uniq, .uniq, .uniq, .uniq, .uniq, .uniq]) (fun _ => True) ?_ ?_
  · ((conv => whnf); (repeat' ((first | (with_reducible first | refine qif_n ?_ | refine qif_t ‹_› ?_ | refine qif_f ‹_› ?_) | ((with_reducible refine qif_t ?_ ?_); focus decide) | ((with_reducible refine qif_f ?_ ?_); focus decide) | (with_reducible refine And.intro (orderOk_i ?ho) ?_; (case ho => kernel_rfl)) | ((with_reducible refine qif_t ?_ ?_); focus (simp [hlt]; done)) | ((with_reducible refine qif_f ?_ ?_); focus (simp [hlt]; done)) | (with_reducible first | refine qif_i (fun _ => ?_) (fun _ => ?_) | refine frcVs_i ?_ | refine frcRs_i ?_) | ((with_reducible refine qCall.pure (cF) ?_ ?_ ?_ ?_); rotate_left 4; exact trivial; exact plT; exact plT) | (refine qCase_i (idxL rfl rfl rfl rfl rfl rfl (by omega) hrow) ?_) | (((with_reducible refine qCall.of (cS) [] [(0, 0)] [] [(1, 2), (2, 3), (3, 4), (4, 5), (5, 6), (6, 7), (7, 8)] [(2, rsO (rsN 3 4 5 6 7 8 y)), (3, .uniq), (4, .uniq), (5, .uniq), (6, .uniq), (7, .uniq), (8, .uniq)] (.tup [.ptr 2 0 0, .val (.int .i64 0)]) ?hk ?_); (case hk => rfl); (conv => whnf); (repeat (refine And.intro ?_ ?_; (focus (first | exact sideT | (first | exact cns_bor rfl rfl rfl _ rfl | exact hsRow_r rfl rfl rfl (cns_gp rfl rfl rfl _) (sns_rr rfl _) (hds_rr rfl _) | exact hsRow_r rfl rfl rfl (cns_pp rfl rfl rfl _) (sns_rr rfl _) (hds_rr rfl _) | exact hsRow_r rfl rfl rfl (cns_gp rfl rfl rfl _) (sns_rr (r := 8) rfl []) (hds_rr (r := 10) rfl []) | exact hsRow_r rfl rfl rfl (cns_pp rfl rfl rfl _) (sns_rr rfl _) (hds_rr (r := 10) rfl []) | exact hsRow_r rfl rfl rfl (cns_gp rfl rfl rfl _) (sns_rr (r := 8) rfl []) (hds_rr rfl [_])))); (conv => whnf))); (fail_if_success (with_reducible first | refine And.intro (eqv_i ?_) ?_ | refine And.intro (ren_i ?_) ?_)))) | (((with_reducible refine qCall.of (cC) [] [(0, 0)] [] [(1, 9), (2, 10), (3, 11), (4, 12)] [(9, .uniq), (10, .uniq), (11, .uniq), (12, .uniq)] (.agg [.glist 9 16 (l.map (cnG 10 11 12)), .val (.int .i64 count)]) ?hk ?_); (case hk => rfl); (conv => whnf); (repeat (refine And.intro ?_ ?_; (focus (first | exact sideT | (first | exact cns_bor rfl rfl rfl _ rfl | exact hsRow_r rfl rfl rfl (cns_gp rfl rfl rfl _) (sns_rr rfl _) (hds_rr rfl _) | exact hsRow_r rfl rfl rfl (cns_pp rfl rfl rfl _) (sns_rr rfl _) (hds_rr rfl _) | exact hsRow_r rfl rfl rfl (cns_gp rfl rfl rfl _) (sns_rr (r := 8) rfl []) (hds_rr (r := 10) rfl []) | exact hsRow_r rfl rfl rfl (cns_pp rfl rfl rfl _) (sns_rr rfl _) (hds_rr (r := 10) rfl []) | exact hsRow_r rfl rfl rfl (cns_gp rfl rfl rfl _) (sns_rr (r := 8) rfl []) (hds_rr rfl [_])))); (conv => whnf))); (fail_if_success (with_reducible first | refine And.intro (eqv_i ?_) ?_ | refine And.intro (ren_i ?_) ?_))))) <;> (conv => whnf))))
    refine ⟨(), trivial, ?_⟩
    (refine qConv.of hB [(1, 1), (2, 11), (13, 6)] [(0, 0), (3, 12), (4, 13), (5, 14), (6, 15), (7, 16), (8, 17), (9, 2), (10, 3), (11, 4), (12, 5)] [] (by rfl) ?_; focus ((conv => whnf); (repeat (refine And.intro ?_ ?_; rotate_left; (conv => whnf))); exact trivial; all_goals (try exact andT)))
    all_goals (try exact dt_AhHoK_ROWK)
    all_goals trace_state
  rintro ⟨⟩ -
  (try dsimp only)
  refine qAWs.fin mixed (by simp only [chain]; rfl) ?_
  ((conv => whnf); (repeat' ((first | (with_reducible first | refine qif_n ?_ | refine qif_t ‹_› ?_ | refine qif_f ‹_› ?_) | ((with_reducible refine qif_t ?_ ?_); focus decide) | ((with_reducible refine qif_f ?_ ?_); focus decide) | (with_reducible refine And.intro (orderOk_i ?ho) ?_; (case ho => kernel_rfl)) | ((with_reducible refine qif_t ?_ ?_); focus (simp [hlt]; done)) | ((with_reducible refine qif_f ?_ ?_); focus (simp [hlt]; done)) | (with_reducible first | refine qif_i (fun _ => ?_) (fun _ => ?_) | refine frcVs_i ?_ | refine frcRs_i ?_) | (((with_reducible refine qCall.ofX (cP) [(1, 6), (10, 11)] [(0, 0), (2, 2), (3, 3), (4, 4), (5, 5), (6, 7), (7, 8), (8, 9), (9, 10), (11, 12), (12, 13), (13, 14), (14, 15), (15, 16), (16, 17)] [] [(17, 18), (18, 19), (19, 20), (20, 21), (21, 22), (22, 23)] [(6, hsO (hsRow 18 19 20 21 22 23 9 10 z)), (2, .dead), (3, .dead), (4, .dead), (5, .dead), (7, .dead), (8, .dead), (11, .dead), (12, .dead), (13, .dead), (14, .dead), (17, .dead), (18, .uniq), (19, .uniq), (20, .uniq), (21, .uniq), (22, .uniq), (23, .uniq)] (.tup []) [(1, 6)] [(17, 18), (18, 19), (19, 20), (20, 21), (21, 22), (22, 23), (0, 0), (8, 9), (9, 10), (14, 15), (15, 16)] [(2, 2), (3, 3), (4, 4), (5, 5), (6, 7), (7, 8), (11, 12), (12, 13), (13, 14), (16, 17)] ?hk ?h1 ?h2 ?h3 ?_); (case hk => kernel_rfl); (case h1 => kernel_rfl); (case h2 => kernel_rfl); (case h3 => kernel_rfl); (conv => whnf); (repeat (refine And.intro ?_ ?_; (focus (first | exact sideT | (first | exact cns_bor rfl rfl rfl _ rfl | exact hsRow_r rfl rfl rfl (cns_gp rfl rfl rfl _) (sns_rr rfl _) (hds_rr rfl _) | exact hsRow_r rfl rfl rfl (cns_pp rfl rfl rfl _) (sns_rr rfl _) (hds_rr rfl _) | exact hsRow_r rfl rfl rfl (cns_gp rfl rfl rfl _) (sns_rr (r := 8) rfl []) (hds_rr (r := 10) rfl []) | exact hsRow_r rfl rfl rfl (cns_pp rfl rfl rfl _) (sns_rr rfl _) (hds_rr (r := 10) rfl []) | exact hsRow_r rfl rfl rfl (cns_gp rfl rfl rfl _) (sns_rr (r := 8) rfl []) (hds_rr rfl [_])))); (conv => whnf))); (fail_if_success (with_reducible first | refine And.intro (eqv_i ?_) ?_ | refine And.intro (ren_i ?_) ?_))))) <;> (conv => whnf))))
  (refine qConv.of hB [(6, 1)] [(0, 0), (18, 2), (19, 3), (20, 4), (21, 5), (22, 6), (23, 7), (9, 8), (10, 9)] [] (by rfl) ?_; focus ((conv => whnf); (repeat (refine And.intro ?_ ?_; rotate_left; (conv => whnf))); exact trivial; all_goals (try exact andT)))
  all_goals first | rfl  | exact hsRow_r rfl rfl rfl (cns_pp rfl rfl rfl _) (sns_rr rfl _) (hds_rr rfl _) | trace_state
theorem rHostAbort_no (l : List Cn) (count link : Int) (hl : l.length ≤ 100000) (ha : Ho.at_ ⟨l, count⟩ link = none) :
    ACallL Tryz.prog 28 [.agg (hoR ⟨l, count⟩), .val (.int .i64 link)] [.perm] (.tup [.val (.pointer none), .val (.int .i64 3)]) [.perm] := by
  have px := pl_cns l
  have cF := rFind_l ⟨l, count⟩ link hl
  rw [ha] at cF
  dsimp only [idxJ, hoR] at cF ⊢
  refine ACallL.of_ev mixed Tryz.func28 rfl (fun a w => Tryz.call28 a w) (congrArg Array.toList Tryz.results28) Tryz.ntmps28 fun B hB => ?_
  ((conv => whnf); (repeat' ((first | (with_reducible first | refine qif_n ?_ | refine qif_t ‹_› ?_ | refine qif_f ‹_› ?_) | ((with_reducible refine qif_t ?_ ?_); focus decide) | ((with_reducible refine qif_f ?_ ?_); focus decide) | (with_reducible refine And.intro (orderOk_i ?ho) ?_; (case ho => kernel_rfl)) | ((with_reducible refine qif_t ?_ ?_); focus (simp []; done)) | ((with_reducible refine qif_f ?_ ?_); focus (simp []; done)) | (with_reducible first | refine qif_i (fun _ => ?_) (fun _ => ?_) | refine frcVs_i ?_ | refine frcRs_i ?_) | ((with_reducible refine qCall.pure (cF) ?_ ?_ ?_ ?_); rotate_left 4; exact trivial; exact plT; exact plT)) <;> (conv => whnf))))
  (refine qConv.of hB [] [(0, 0)] [] (by rfl) ?_; focus ((conv => whnf); (repeat (refine And.intro ?_ ?_; rotate_left; (conv => whnf))); exact trivial; all_goals (try exact andT)))
theorem rHostClose_no (l : List Cn) (count link : Int) (hl : l.length ≤ 100000) {e : Int} (h0 : e ≠ 0) (hE : Ho.withE ⟨l, count⟩ link Cn.closeE = e) :
    ACallL Tryz.prog 26 [.agg (hoR ⟨l, count⟩), .val (.int .i64 link)] [.perm] (.tup [.val (.pointer none), .val (.int .i64 e)]) [.perm] := by
  have px := pl_cns l
  have ll : (l.map (cnR 0)).length = l.length := by simp
  have cF := rFind_l ⟨l, count⟩ link hl
  unfold Ho.withE at hE
  cases ha : Ho.at_ ⟨l, count⟩ link with
  | none =>
    rw [ha] at cF hE
    dsimp only at hE
    subst hE
    dsimp only [idxJ, hoR] at cF ⊢
    refine ACallL.of_ev mixed Tryz.func26 rfl (fun a w => Tryz.call26 a w) (congrArg Array.toList Tryz.results26) Tryz.ntmps26 fun B hB => ?_
    ((conv => whnf); (repeat' ((first | (with_reducible first | refine qif_n ?_ | refine qif_t ‹_› ?_ | refine qif_f ‹_› ?_) | ((with_reducible refine qif_t ?_ ?_); focus decide) | ((with_reducible refine qif_f ?_ ?_); focus decide) | (with_reducible refine And.intro (orderOk_i ?ho) ?_; (case ho => kernel_rfl)) | ((with_reducible refine qif_t ?_ ?_); focus (simp []; done)) | ((with_reducible refine qif_f ?_ ?_); focus (simp []; done)) | (with_reducible first | refine qif_i (fun _ => ?_) (fun _ => ?_) | refine frcVs_i ?_ | refine frcRs_i ?_) | ((with_reducible refine qCall.pure (cF) ?_ ?_ ?_ ?_); rotate_left 4; exact trivial; exact plT; exact plT)) <;> (conv => whnf))))
    (refine qConv.of hB [] [(0, 0)] [] (by rfl) ?_; focus ((conv => whnf); (repeat (refine And.intro ?_ ?_; rotate_left; (conv => whnf))); exact trivial; all_goals (try exact andT)))
  | some i =>
    rw [ha] at cF hE
    obtain ⟨c, hci, hp, hg⟩ := find_some ha
    dsimp only at hE
    rw [hg] at hE
    have hrow : (l.map (cnR 0))[(i : Int).toNat]? = some (cnR 0 c) := by simp [hci]
    have hlt : i < l.length := (List.getElem?_eq_some_iff.1 hci).1
    have hn : decide ((i : Int) < 0) = false := by simp
    have he6 : c.closeE = 6 := by
      unfold Cn.closeE at hE ⊢
      cases hb : c.closing <;> cases hb2 : (c.talks || c.st == 1) <;> rw [hb, hb2] at hE <;> first | rfl | exact absurd hE.symm h0
    have cS := rClose_no c he6
    rw [he6] at hE
    subst hE
    dsimp only [cnR, cnL] at cS
    have p1 := pl_bytes c.out
    have p2 := pl_parts c.parts
    dsimp only [idxJ, hoR] at cF ⊢
    refine ACallL.of_ev mixed Tryz.func26 rfl (fun a w => Tryz.call26 a w) (congrArg Array.toList Tryz.results26) Tryz.ntmps26 fun B hB => ?_
    ((conv => whnf); (repeat' ((first | (with_reducible first | refine qif_n ?_ | refine qif_t ‹_› ?_ | refine qif_f ‹_› ?_) | ((with_reducible refine qif_t ?_ ?_); focus decide) | ((with_reducible refine qif_f ?_ ?_); focus decide) | (with_reducible refine And.intro (orderOk_i ?ho) ?_; (case ho => kernel_rfl)) | ((with_reducible refine qif_t ?_ ?_); focus (simp [hlt]; done)) | ((with_reducible refine qif_f ?_ ?_); focus (simp [hlt]; done)) | (with_reducible first | refine qif_i (fun _ => ?_) (fun _ => ?_) | refine frcVs_i ?_ | refine frcRs_i ?_) | ((with_reducible refine qCall.pure (cF) ?_ ?_ ?_ ?_); rotate_left 4; exact trivial; exact plT; exact plT) | ((with_reducible refine qCall.pure (cS) ?_ ?_ ?_ ?_); rotate_left 4; exact trivial; exact plT; exact plT) | (refine qCase_i (idxL rfl rfl rfl rfl rfl rfl (by omega) hrow) ?_)) <;> (conv => whnf))))
    (refine qConv.of hB [] [(0, 0)] [] (by rfl) ?_; focus ((conv => whnf); (repeat (refine And.intro ?_ ?_; rotate_left; (conv => whnf))); exact trivial; all_goals (try exact andT)))
theorem rHostSend_no (l : List Cn) (count link : Int) (xs : List Int) (hl : l.length ≤ 100000) (hc : ∀ c ∈ l, c.out.length ≤ 8192) {e : Int} (h0 : e ≠ 0) (hE : Ho.withE ⟨l, count⟩ link (fun c => c.sendE xs) = e) :
    ACallL Tryz.prog 23 [.agg (hoR ⟨l, count⟩), .val (.int .i64 link), bL 0 xs] [.perm] (.tup [.val (.pointer none), .val (.int .i64 e)]) [.perm] := by
  have px := pl_cns l
  have pz := pl_bytes xs
  have ll : (l.map (cnR 0)).length = l.length := by simp
  have cF := rFind_l ⟨l, count⟩ link hl
  unfold Ho.withE at hE
  cases ha : Ho.at_ ⟨l, count⟩ link with
  | none =>
    rw [ha] at cF hE
    dsimp only at hE
    subst hE
    dsimp only [idxJ, hoR] at cF ⊢
    refine ACallL.of_ev mixed Tryz.func23 rfl (fun a w => Tryz.call23 a w) (congrArg Array.toList Tryz.results23) Tryz.ntmps23 fun B hB => ?_
    ((conv => whnf); (repeat' ((first | (with_reducible first | refine qif_n ?_ | refine qif_t ‹_› ?_ | refine qif_f ‹_› ?_) | ((with_reducible refine qif_t ?_ ?_); focus decide) | ((with_reducible refine qif_f ?_ ?_); focus decide) | (with_reducible refine And.intro (orderOk_i ?ho) ?_; (case ho => kernel_rfl)) | ((with_reducible refine qif_t ?_ ?_); focus (simp []; done)) | ((with_reducible refine qif_f ?_ ?_); focus (simp []; done)) | (with_reducible first | refine qif_i (fun _ => ?_) (fun _ => ?_) | refine frcVs_i ?_ | refine frcRs_i ?_) | ((with_reducible refine qCall.pure (cF) ?_ ?_ ?_ ?_); rotate_left 4; exact trivial; exact plT; exact plT)) <;> (conv => whnf))))
    (refine qConv.of hB [] [(0, 0)] [] (by rfl) ?_; focus ((conv => whnf); (repeat (refine And.intro ?_ ?_; rotate_left; (conv => whnf))); exact trivial; all_goals (try exact andT)))
  | some i =>
    rw [ha] at cF hE
    obtain ⟨c, hci, hp, hg⟩ := find_some ha
    dsimp only at hE
    rw [hg] at hE
    have hrow : (l.map (cnR 0))[(i : Int).toNat]? = some (cnR 0 c) := by simp [hci]
    have hlt : i < l.length := (List.getElem?_eq_some_iff.1 hci).1
    have hn : decide ((i : Int) < 0) = false := by simp
    have cS := rSend_no c xs (hc c (List.mem_of_getElem? hci)) (by rw [hE]; exact h0)
    rw [hE] at cS
    have h1 : (e != 0) = true := by simpa using h0
    dsimp only [cnR, cnL] at cS
    have p1 := pl_bytes c.out
    have p2 := pl_parts c.parts
    dsimp only [idxJ, hoR] at cF ⊢
    refine ACallL.of_ev mixed Tryz.func23 rfl (fun a w => Tryz.call23 a w) (congrArg Array.toList Tryz.results23) Tryz.ntmps23 fun B hB => ?_
    ((conv => whnf); (repeat' ((first | (with_reducible first | refine qif_n ?_ | refine qif_t ‹_› ?_ | refine qif_f ‹_› ?_) | ((with_reducible refine qif_t ?_ ?_); focus decide) | ((with_reducible refine qif_f ?_ ?_); focus decide) | (with_reducible refine And.intro (orderOk_i ?ho) ?_; (case ho => kernel_rfl)) | ((with_reducible refine qif_t ?_ ?_); focus (simp [hlt]; done)) | ((with_reducible refine qif_f ?_ ?_); focus (simp [hlt]; done)) | (with_reducible first | refine qif_i (fun _ => ?_) (fun _ => ?_) | refine frcVs_i ?_ | refine frcRs_i ?_) | ((with_reducible refine qCall.pure (cF) ?_ ?_ ?_ ?_); rotate_left 4; exact trivial; exact plT; exact plT) | ((with_reducible refine qCall.pure (cS) ?_ ?_ ?_ ?_); rotate_left 4; exact trivial; exact plT; exact plT) | (refine qCase_i (idxL rfl rfl rfl rfl rfl rfl (by omega) hrow) ?_)) <;> (conv => whnf))))
    (refine qConv.of hB [] [(0, 0)] [] (by rfl) ?_; focus ((conv => whnf); (repeat (refine And.intro ?_ ?_; rotate_left; (conv => whnf))); exact trivial; all_goals (try exact andT)))
end Go.Proofs.YtceohcbokbalhaaGreat

/- The page's host: a tick: on data. Conditions: what may be. -/
-- sideX: first | exact cns_bor rfl rfl rfl _ rfl | exact hsRow_r rfl rfl rfl (cns_gp rfl rfl rfl _) (sns_rr rfl _) (hds_rr rfl _) | exact hsRow_r rfl rfl rfl (cns_pp rfl rfl rfl _) (sns_rr rfl _) (hds_rr rfl _)
namespace Go.Proofs.YtceohcbokbalhaaGreat
open Go.RowKit
set_option linter.unusedVariables false
set_option linter.unusedSimpArgs false
set_option maxRecDepth 100000
set_option maxHeartbeats 4000000
end Go.Proofs.YtceohcbokbalhaaGreat

/- Where the connection of a number is: on data. Conditions: lengths; the numbers rise. -/
namespace Go.Proofs.YtceohcbokbalhaaGreat
open Go.RowKit
set_option linter.unusedVariables false
set_option linter.unusedSimpArgs false
set_option maxRecDepth 100000
set_option maxHeartbeats 4000000
theorem isNaN_l (n : Int) : ACallL Tryz.prog 141 [.val (.int .i64 n)] [.perm] (.val (.bool false)) [.perm] := by
  refine ACallL.of_ev mixed Tryz.func141 rfl (fun a w => Tryz.call141 a w) (congrArg Array.toList Tryz.results141) Tryz.ntmps141 fun B hB => ?_
  ((conv => whnf); (repeat' ((first | (with_reducible first | refine qif_n ?_ | refine qif_t ‹_› ?_ | refine qif_f ‹_› ?_) | ((with_reducible refine qif_t ?_ ?_); focus decide) | ((with_reducible refine qif_f ?_ ?_); focus decide) | (with_reducible refine And.intro (orderOk_i ?ho) ?_; (case ho => kernel_rfl)) | (with_reducible first | refine qif_i (fun _ => ?_) (fun _ => ?_) | refine frcVs_i ?_ | refine frcRs_i ?_)) <;> (conv => whnf))))
  all_goals (refine qConv.of hB [] [(0, 0)] [] (by rfl) ?_; focus ((conv => whnf); (repeat (refine And.intro ?_ ?_; rotate_left; (conv => whnf))); exact trivial; all_goals (try exact andT)))
  all_goals simp
def cmpI (a b : Int) : Int := if a < b then -1 else if b < a then 1 else 0
theorem compare_l (a b : Int) : ACallL Tryz.prog 127 [.val (.int .i64 a), .val (.int .i64 b)] [.perm] (.val (.int .i64 (cmpI a b))) [.perm] := by
  refine ACallL.of_ev mixed Tryz.func127 rfl (fun a w => Tryz.call127 a w) (congrArg Array.toList Tryz.results127) Tryz.ntmps127 fun B hB => ?_
  ((conv => whnf); (repeat' ((first | (with_reducible first | refine qif_n ?_ | refine qif_t ‹_› ?_ | refine qif_f ‹_› ?_) | ((with_reducible refine qif_t ?_ ?_); focus decide) | ((with_reducible refine qif_f ?_ ?_); focus decide) | (with_reducible refine And.intro (orderOk_i ?ho) ?_; (case ho => kernel_rfl)) | (with_reducible first | refine qif_i (fun _ => ?_) (fun _ => ?_) | refine frcVs_i ?_ | refine frcRs_i ?_) | ((with_reducible refine qCall.pure (isNaN_l _) ?_ ?_ ?_ ?_); rotate_left 4; exact trivial; exact plT; exact plT)) <;> (conv => whnf))))
  all_goals (refine qConv.of hB [] [(0, 0)] [] (by rfl) ?_; focus ((conv => whnf); (repeat (refine And.intro ?_ ?_; rotate_left; (conv => whnf))); exact trivial; all_goals (try exact andT)))
  all_goals (congr 1; simp_all [cmpI] <;> omega)
theorem atC_l (c : Cn) (t : Int) : ACallL Tryz.prog 126 [.agg (cnR 0 c), .val (.int .i64 t)] [.perm] (.val (.int .i64 (cmpI c.link t))) [.perm] := by
  have px := pl_bytes c.out
  have py := pl_parts c.parts
  refine ACallL.of_ev mixed Tryz.func126 rfl (fun a w => Tryz.call126 a w) (congrArg Array.toList Tryz.results126) Tryz.ntmps126 fun B hB => ?_
  ((conv => whnf); (repeat' ((first | (with_reducible first | refine qif_n ?_ | refine qif_t ‹_› ?_ | refine qif_f ‹_› ?_) | ((with_reducible refine qif_t ?_ ?_); focus decide) | ((with_reducible refine qif_f ?_ ?_); focus decide) | (with_reducible refine And.intro (orderOk_i ?ho) ?_; (case ho => kernel_rfl)) | (with_reducible first | refine qif_i (fun _ => ?_) (fun _ => ?_) | refine frcVs_i ?_ | refine frcRs_i ?_) | ((with_reducible refine qCall.pure (compare_l _ _) ?_ ?_ ?_ ?_); rotate_left 4; exact trivial; exact plT; exact plT)) <;> (conv => whnf))))
  all_goals (refine qConv.of hB [] [(0, 0)] [] (by rfl) ?_; focus ((conv => whnf); (repeat (refine And.intro ?_ ?_; rotate_left; (conv => whnf))); exact trivial; all_goals (try exact andT)))
def posC : List Cn → Int → Nat
  | [], _ => 0
  | p :: l, t => if p.link < t then posC l t + 1 else 0
def srtC (l : List Cn) : Prop := l.Pairwise fun a b => a.link < b.link
def thereC (l : List Cn) (t : Int) : Bool := match l[posC l t]? with | some p => p.link == t | none => false
theorem posC_le (t : Int) : ∀ l : List Cn, posC l t ≤ l.length
  | [] => Nat.le_refl _
  | p :: l => by unfold posC; split; simpa using posC_le t l; simp
theorem posC_lt (t : Int) : ∀ {l : List Cn} (hs : srtC l) {h : Nat} {p : Cn}, l[h]? = some p → (p.link < t ↔ h < posC l t)
  | [], _, h, p, hp => by simp at hp
  | q :: l, hs, h, p, hp => by
    have hq := (List.pairwise_cons.1 hs).1
    have hl := (List.pairwise_cons.1 hs).2
    unfold posC
    cases h with
    | zero =>
      simp only [List.getElem?_cons_zero, Option.some.injEq] at hp
      subst hp
      split <;> simp_all
    | succ h =>
      simp only [List.getElem?_cons_succ] at hp
      have := posC_lt t hl hp
      have hlt := hq p (List.mem_of_getElem? hp)
      split
      · rw [this]; omega
      · simp; omega
theorem mid_eq (i j : Nat) (h : i + j ≤ 1000000000) : IntKind.i64.wrap ((IntKind.u64.wrap (IntKind.i64.wrap ((i : Int) + (j : Int)))).fdiv (2 ^ min (Int.toNat 1) IntKind.u64.bits)) = (((i + j) / 2 : Nat) : Int) := by
  have e : (2 : Int) ^ min (Int.toNat 1) IntKind.u64.bits = 2 := by decide
  have u : ∀ n : Int, IntKind.u64.wrap n = n % 18446744073709551616 := fun n => IntKind.wrap_u64 n
  have a1 := IntWalk.i64_in ((i : Int) + (j : Int)) (by omega)
  have a2 := IntWalk.i64_in (((i : Int) + (j : Int)) / 2) (by omega)
  rw [e, a1, u, Int.emod_eq_of_lt (by omega) (by omega), Int.fdiv_eq_ediv_of_nonneg _ (by decide), a2]
  omega
theorem bsearch_l (l : List Cn) (t : Int) (hs : srtC l) (hl : l.length ≤ 100000000) : ACallL Tryz.prog 125 [.list 0 16 (l.map (cnR 0)), .val (.int .i64 t), .clo 126 []] [.perm] (.tup [.val (.int .i64 (posC l t)), .val (.bool (thereC l t))]) [.perm] := by
  have lb : (l.map (cnR 0)).length = l.length := by simp
  have hpl := posC_le t l
  refine ACallL.of_ev mixed Tryz.func125 rfl (fun a w => Tryz.call125 a w) (congrArg Array.toList Tryz.results125) Tryz.ntmps125 fun B hB => ?_
  ((conv => whnf); (repeat' ((first | (with_reducible first | refine qif_n ?_ | refine qif_t ‹_› ?_ | refine qif_f ‹_› ?_) | ((with_reducible refine qif_t ?_ ?_); focus decide) | ((with_reducible refine qif_f ?_ ?_); focus decide) | (with_reducible refine And.intro (orderOk_i ?ho) ?_; (case ho => kernel_rfl)) | (with_reducible first | refine qif_i (fun _ => ?_) (fun _ => ?_) | refine frcVs_i ?_ | refine frcRs_i ?_)) <;> (conv => whnf))))
  refine qAW.loopE mixed (X := Nat × Nat) (fun x => slotsOf 49 [(0, .list 0 16 (l.map (cnR 0))), (1, .val (.int .i64 t)), (2, .clo 126 []), (8, .val (.int .i64 (l.map (cnR 0)).length)), (9, .val (.int .i64 x.1)), (10, .val (.int .i64 x.2))]) (fun x => [.perm])
    (fun x => x.1 ≤ posC l t ∧ posC l t ≤ x.2 ∧ x.2 ≤ l.length) (fun x => x.2 - x.1) (0, l.length) ⟨Nat.zero_le _, hpl, Nat.le_refl _⟩ ?_ ?_
  · (refine qConv.of hB [] [(0, 0)] [] (by rfl) ?_; focus ((conv => whnf); (repeat (refine And.intro ?_ ?_; rotate_left; (conv => whnf))); exact trivial; all_goals (try exact andT)))
    all_goals first | rfl | (simp; done)
  · rintro E ⟨i, j⟩ ⟨h1, h2, h3⟩ hE
    dsimp only at h1 h2 h3 ⊢
    by_cases hlt : i < j
    · obtain ⟨m, hm⟩ : ∃ m, (i + j) / 2 = m := ⟨_, rfl⟩
      have hmid := mid_eq i j (by omega)
      rw [hm] at hmid
      obtain ⟨M, hM⟩ : ∃ M, IntKind.i64.wrap ((IntKind.u64.wrap (IntKind.i64.wrap ((i : Int) + (j : Int)))).fdiv (2 ^ min (Int.toNat 1) IntKind.u64.bits)) = M := ⟨_, rfl⟩
      have hMm : M = m := hM ▸ hmid
      obtain ⟨c, hp⟩ : ∃ p, l[m]? = some p := ⟨_, List.getElem?_eq_getElem (by omega)⟩
      have hrow : (l.map (cnR 0))[M.toNat]? = some (cnR 0 c) := by simp [hMm, hp]
      have hpos := posC_lt t hs hp
      have hge : 0 ≤ M := by omega
      have w := IntWalk.i64_in (M + 1) (by omega)
      by_cases hc : c.link < t
      · have h4 := hpos.1 hc
        have hcmp : cmpI c.link t = -1 := by simp [cmpI, hc]
        have cC := atC_l c t
        rw [hcmp] at cC
        subst hE
        ((conv => whnf); (repeat' ((first | (with_reducible first | refine qif_n ?_ | refine qif_t ‹_› ?_ | refine qif_f ‹_› ?_) | ((with_reducible refine qif_t ?_ ?_); focus decide) | ((with_reducible refine qif_f ?_ ?_); focus decide) | (with_reducible refine And.intro (orderOk_i ?ho) ?_; (case ho => kernel_rfl)) | ((with_reducible refine qif_t ?_ ?_); focus (simp [hlt]; done)) | ((with_reducible refine qif_f ?_ ?_); focus (simp [hlt]; done)) | (with_reducible first | refine qif_i (fun _ => ?_) (fun _ => ?_) | refine frcVs_i ?_ | refine frcRs_i ?_) | ((rw [hM])) | ((with_reducible refine qCall.pure (cC) ?_ ?_ ?_ ?_); rotate_left 4; exact trivial; exact plT; exact plT) | (refine qCase_i (idxL rfl rfl rfl rfl rfl rfl hge hrow) ?_)) <;> (conv => whnf))))
        refine ⟨(m + 1, j), ⟨by dsimp only; omega, by dsimp only; omega, h3⟩, by dsimp only; omega, ?_⟩
        (refine qConv.of hB [] [(0, 0)] [] (by rfl) ?_; focus ((conv => whnf); (repeat (refine And.intro ?_ ?_; rotate_left; (conv => whnf))); exact trivial; all_goals (try exact andT)))
        all_goals first | rfl | (rw [w, hMm]; simp; done)
      · have h4 : ¬ m < posC l t := fun h => hc (hpos.2 h)
        obtain ⟨q, hq⟩ : ∃ q, cmpI c.link t = q := ⟨_, rfl⟩
        have hq0 : ¬ q < 0 := by rw [← hq]; unfold cmpI; rw [if_neg hc]; split <;> omega
        have cC := atC_l c t
        rw [hq] at cC
        subst hE
        ((conv => whnf); (repeat' ((first | (with_reducible first | refine qif_n ?_ | refine qif_t ‹_› ?_ | refine qif_f ‹_› ?_) | ((with_reducible refine qif_t ?_ ?_); focus decide) | ((with_reducible refine qif_f ?_ ?_); focus decide) | (with_reducible refine And.intro (orderOk_i ?ho) ?_; (case ho => kernel_rfl)) | ((with_reducible refine qif_t ?_ ?_); focus (simp [hlt, hq0]; done)) | ((with_reducible refine qif_f ?_ ?_); focus (simp [hlt, hq0]; done)) | (with_reducible first | refine qif_i (fun _ => ?_) (fun _ => ?_) | refine frcVs_i ?_ | refine frcRs_i ?_) | ((rw [hM])) | ((with_reducible refine qCall.pure (cC) ?_ ?_ ?_ ?_); rotate_left 4; exact trivial; exact plT; exact plT) | (refine qCase_i (idxL rfl rfl rfl rfl rfl rfl hge hrow) ?_)) <;> (conv => whnf))))
        refine ⟨(i, m), ⟨h1, by dsimp only; omega, by dsimp only; omega⟩, by dsimp only; omega, ?_⟩
        (refine qConv.of hB [] [(0, 0)] [] (by rfl) ?_; focus ((conv => whnf); (repeat (refine And.intro ?_ ?_; rotate_left; (conv => whnf))); exact trivial; all_goals (try exact andT)))
        all_goals first | rfl | (simp [hMm]; done)
    · have hij : i = posC l t := by omega
      by_cases hend : i < l.length
      · obtain ⟨c, hp⟩ : ∃ p, l[i]? = some p := ⟨_, List.getElem?_eq_getElem hend⟩
        have hrow : (l.map (cnR 0))[(i : Int).toNat]? = some (cnR 0 c) := by simp [hp]
        have hth : thereC l t = (c.link == t) := by unfold thereC; rw [← hij, hp]
        have hge : ¬ c.link < t := fun h => by have := (posC_lt t hs hp).1 h; omega
        have hcmp : (cmpI c.link t == 0) = (c.link == t) := by
          unfold cmpI
          rw [if_neg hge]
          by_cases h : t < c.link
          · rw [if_pos h]
            have h5 : ¬ c.link = t := by omega
            simp [h5]
          · rw [if_neg h]
            have h5 : c.link = t := by omega
            simp [h5]
        subst hE
        ((conv => whnf); (repeat' ((first | (with_reducible first | refine qif_n ?_ | refine qif_t ‹_› ?_ | refine qif_f ‹_› ?_) | ((with_reducible refine qif_t ?_ ?_); focus decide) | ((with_reducible refine qif_f ?_ ?_); focus decide) | (with_reducible refine And.intro (orderOk_i ?ho) ?_; (case ho => kernel_rfl)) | ((with_reducible refine qif_t ?_ ?_); focus (simp [hlt, hend]; done)) | ((with_reducible refine qif_f ?_ ?_); focus (simp [hlt, hend]; done)) | (with_reducible first | refine qif_i (fun _ => ?_) (fun _ => ?_) | refine frcVs_i ?_ | refine frcRs_i ?_) | ((with_reducible refine qCall.pure (atC_l _ _) ?_ ?_ ?_ ?_); rotate_left 4; exact trivial; exact plT; exact plT) | (refine qCase_i (idxL rfl rfl rfl rfl rfl rfl (by omega) hrow) ?_)) <;> (conv => whnf))))
        (refine qConv.of hB [] [(0, 0)] [] (by rfl) ?_; focus ((conv => whnf); (repeat (refine And.intro ?_ ?_; rotate_left; (conv => whnf))); exact trivial; all_goals (try exact andT)))
        all_goals first | rfl | (rw [hth, ← hcmp]; done) | (rw [hij]; done) | skip
      · have hth : thereC l t = false := by unfold thereC; rw [← hij, List.getElem?_eq_none (by omega)]
        subst hE
        ((conv => whnf); (repeat' ((first | (with_reducible first | refine qif_n ?_ | refine qif_t ‹_› ?_ | refine qif_f ‹_› ?_) | ((with_reducible refine qif_t ?_ ?_); focus decide) | ((with_reducible refine qif_f ?_ ?_); focus decide) | (with_reducible refine And.intro (orderOk_i ?ho) ?_; (case ho => kernel_rfl)) | ((with_reducible refine qif_t ?_ ?_); focus (simp [hlt, hend]; done)) | ((with_reducible refine qif_f ?_ ?_); focus (simp [hlt, hend]; done)) | (with_reducible first | refine qif_i (fun _ => ?_) (fun _ => ?_) | refine frcVs_i ?_ | refine frcRs_i ?_)) <;> (conv => whnf))))
        (refine qConv.of hB [] [(0, 0)] [] (by rfl) ?_; focus ((conv => whnf); (repeat (refine And.intro ?_ ?_; rotate_left; (conv => whnf))); exact trivial; all_goals (try exact andT)))
        all_goals first | rfl | (rw [hth]; done) | (rw [hij]; done) | skip
theorem at_l (l : List Cn) (count t : Int) (hs : srtC l) (hl : l.length ≤ 100000000) : ACallL Tryz.prog 91 [.agg (hoR ⟨l, count⟩), .val (.int .i64 t)] [.perm] (.tup [.val (.int .i64 (posC l t)), .val (.bool (thereC l t))]) [.perm] := by
  have px := pl_cns l
  have cB := bsearch_l l t hs hl
  dsimp only [hoR]
  refine ACallL.of_ev mixed Tryz.func91 rfl (fun a w => Tryz.call91 a w) (congrArg Array.toList Tryz.results91) Tryz.ntmps91 fun B hB => ?_
  ((conv => whnf); (repeat' ((first | (with_reducible first | refine qif_n ?_ | refine qif_t ‹_› ?_ | refine qif_f ‹_› ?_) | ((with_reducible refine qif_t ?_ ?_); focus decide) | ((with_reducible refine qif_f ?_ ?_); focus decide) | (with_reducible refine And.intro (orderOk_i ?ho) ?_; (case ho => kernel_rfl)) | (with_reducible first | refine qif_i (fun _ => ?_) (fun _ => ?_) | refine frcVs_i ?_ | refine frcRs_i ?_) | (((with_reducible refine qCall.reads (cB) [(0, 0)] [] ?hk ?_); (case hk => rfl); (conv => whnf); (repeat (refine And.intro ?_ ?_; exact sideT; (conv => whnf))); (fail_if_success (with_reducible first | refine And.intro (eqv_i ?_) ?_ | refine And.intro (ren_i ?_) ?_))))) <;> (conv => whnf))))
  (refine qConv.of hB [] [(0, 0)] [] (by rfl) ?_; focus ((conv => whnf); (repeat (refine And.intro ?_ ?_; rotate_left; (conv => whnf))); exact trivial; all_goals (try exact andT)))
theorem at_some {l : List Cn} {count t : Int} (hs : srtC l) (h : thereC l t = true) : ∃ c, l[posC l t]? = some c ∧ c.link = t ∧ Ho.at_ ⟨l, count⟩ t = some (posC l t) := by
  unfold thereC at h
  cases hp : l[posC l t]? with
  | none => rw [hp] at h; cases h
  | some c =>
    rw [hp] at h
    have hc : c.link = t := by simpa using h
    refine ⟨c, rfl, hc, ?_⟩
    unfold Ho.at_
    obtain ⟨hlt, e⟩ := List.getElem?_eq_some_iff.1 hp
    rw [List.findIdx?_eq_some_iff_getElem]
    have hlt2 : posC l t < l.length := hlt
    refine ⟨hlt, by rw [e]; simpa using hc, fun j hj => ?_⟩
    have := (posC_lt t hs (List.getElem?_eq_getElem (by omega : j < l.length))).2 hj
    simp only [beq_iff_eq, Bool.not_eq_true]
    intro e2
    omega
theorem at_none {l : List Cn} {count t : Int} (hs : srtC l) (h : thereC l t = false) : Ho.at_ ⟨l, count⟩ t = none := by
  unfold Ho.at_
  rw [List.findIdx?_eq_none_iff]
  intro c hc
  obtain ⟨j, hj⟩ := List.getElem?_of_mem hc
  by_cases e : c.link = t
  · exfalso
    have h1 := posC_lt t hs hj
    have h2 : ¬ j < posC l t := fun x => by have := h1.2 x; omega
    have hjl : j < l.length := (List.getElem?_eq_some_iff.1 hj).1
    have h3 : posC l t = j := by
      by_cases h4 : posC l t < j
      · have hp := List.getElem?_eq_getElem (show posC l t < l.length by omega)
        have h5 := (posC_lt t hs hp).1
        have h6 : ¬ (l[posC l t]'(by omega)).link < t := fun x => by have := h5 x; omega
        unfold srtC at hs
        rw [List.pairwise_iff_getElem] at hs
        have h7 := hs (posC l t) j (by omega) hjl h4
        have h8 : l[j] = c := (List.getElem?_eq_some_iff.1 hj).2
        rw [h8] at h7
        omega
      · omega
    unfold thereC at h
    rw [h3, hj] at h
    simp [e] at h
  · simpa using e
end Go.Proofs.YtceohcbokbalhaaGreat

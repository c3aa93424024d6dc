/- Contracts and plain laws, one behind the other: AhHoW, AhHoX, AhHoY, AhHoZ, AhHoV, SpoilQ. Conditions are said at each. -/
import Derived.Test.YtceohcbokbalhaaGreatPkAS
import Derived.Test.YtceohcbokbalhaaGreatPkAP
import Derived.Test.YtceohcbokbalhaaGreatPkAN
import Derived.Test.YtceohcbokbalhaaGreatPkAF
/- Something is done with a host's connection: on data. Conditions: what may be. -/
-- sideX: first | exact cns_bor rfl rfl rfl _ rfl | exact cns_setS rfl rfl rfl rfl rfl rfl _ _ _ | exact RowsRen.app (cns_gg rfl rfl rfl _) zR_self
namespace Go.Proofs.YtceohcbokbalhaaGreat
open Go.RowKit
set_option linter.unusedVariables false
set_option linter.unusedSimpArgs false
set_option maxRecDepth 100000
set_option maxHeartbeats 4000000
abbrev hwA (y : Hs) : AV := .tup [.agg [.glist 1 16 (y.h.conns.map (cnG 2 3 4)), .val (.int .i64 y.h.count)], .glist 5 8 (y.out.map (snG 6)), .val (.int .i64 0)]
abbrev hwH : List Own := [.perm, .uniq, .uniq, .uniq, .uniq, .uniq, .uniq]
abbrev hwNo (e : Int) : AV := .tup [noHo, .val (.slice none 0 0), .val (.int .i64 e)]
theorem with_no1 (F : FuncId) (h : Ho) (link : Int) (hc : ∀ c ∈ h.conns, CnLen c) (hl : h.conns.length ≤ 100000000) (hno : hostB h = false) :
    ACallL Tryz.prog 53 [.agg (hoR h), .val (.int .i64 link), .clo F []] [.perm] (hwNo 1) [.perm] := by
  have px := pl_cns h.conns
  have cM := hostMay_l h hc hl
  rw [hno] at cM
  dsimp only [hoR] at cM ⊢
  refine ACallL.of_ev mixed Tryz.func53 rfl (fun a w => Tryz.call53 a w) (congrArg Array.toList Tryz.results53) Tryz.ntmps53 fun B hB => ?_
  ((conv => whnf); (repeat' ((first | (with_reducible first | refine qif_n ?_ | refine qif_t ‹_› ?_ | refine qif_f ‹_› ?_) | ((with_reducible refine qif_t ?_ ?_); focus decide) | ((with_reducible refine qif_f ?_ ?_); focus decide) | (with_reducible refine And.intro (orderOk_i ?ho) ?_; (case ho => kernel_rfl)) | ((with_reducible refine qif_t ?_ ?_); focus (simp []; done)) | ((with_reducible refine qif_f ?_ ?_); focus (simp []; done)) | (with_reducible first | refine qif_i (fun _ => ?_) (fun _ => ?_) | refine frcVs_i ?_ | refine frcRs_i ?_) | ((with_reducible refine qCall.pure (cM) ?_ ?_ ?_ ?_); rotate_left 4; exact trivial; exact plT; exact plT)) <;> (conv => whnf))))
  (refine qConv.of hB [] [(0, 0)] [] (by rfl) ?_; focus ((conv => whnf); (repeat (refine And.intro ?_ ?_; rotate_left; (conv => whnf))); exact trivial; all_goals (try exact andT)))
theorem with_no3 (F : FuncId) (l : List Cn) (count link : Int) (H : HoI ⟨l, count⟩) (hno : thereC l link = false) :
    ACallL Tryz.prog 53 [.agg (hoR ⟨l, count⟩), .val (.int .i64 link), .clo F []] [.perm] (hwNo 3) [.perm] := by
  have px := pl_cns l
  have hl := H.len
  dsimp only at hl
  have hcl : ∀ d ∈ l, CnLen d := fun d hd => (H.ok d hd).1.I.cnLen
  have cM := hostMay_l ⟨l, count⟩ hcl (by dsimp only; omega)
  rw [(hostB_iff _).2 H] at cM
  have cA := at_l l count link H.up (by omega)
  rw [hno] at cA
  dsimp only [hoR] at cM cA ⊢
  refine ACallL.of_ev mixed Tryz.func53 rfl (fun a w => Tryz.call53 a w) (congrArg Array.toList Tryz.results53) Tryz.ntmps53 fun B hB => ?_
  ((conv => whnf); (repeat' ((first | (with_reducible first | refine qif_n ?_ | refine qif_t ‹_› ?_ | refine qif_f ‹_› ?_) | ((with_reducible refine qif_t ?_ ?_); focus decide) | ((with_reducible refine qif_f ?_ ?_); focus decide) | (with_reducible refine And.intro (orderOk_i ?ho) ?_; (case ho => kernel_rfl)) | ((with_reducible refine qif_t ?_ ?_); focus (simp []; done)) | ((with_reducible refine qif_f ?_ ?_); focus (simp []; done)) | (with_reducible first | refine qif_i (fun _ => ?_) (fun _ => ?_) | refine frcVs_i ?_ | refine frcRs_i ?_) | ((with_reducible refine qCall.pure (cM) ?_ ?_ ?_ ?_); rotate_left 4; exact trivial; exact plT; exact plT) | ((with_reducible refine qCall.pure (cA) ?_ ?_ ?_ ?_); rotate_left 4; exact trivial; exact plT; exact plT)) <;> (conv => whnf))))
  (refine qConv.of hB [] [(0, 0)] [] (by rfl) ?_; focus ((conv => whnf); (repeat (refine And.intro ?_ ?_; rotate_left; (conv => whnf))); exact trivial; all_goals (try exact andT)))
theorem with_noE (F : FuncId) (l : List Cn) (count link e : Int) (H : HoI ⟨l, count⟩) (c : Cn) (ht : thereC l link = true) (hci : l[posC l link]? = some c) (he : (e != 0) = true) (cD : ACallL Tryz.prog F [.agg (cnR 0 c)] [.perm] (stNo e) [.perm]) :
    ACallL Tryz.prog 53 [.agg (hoR ⟨l, count⟩), .val (.int .i64 link), .clo F []] [.perm] (hwNo e) [.perm] := by
  have px := pl_cns l
  have p1 := pl_bytes c.out
  have p2 := pl_parts c.parts
  have hl := H.len
  dsimp only at hl
  have hcl : ∀ d ∈ l, CnLen d := fun d hd => (H.ok d hd).1.I.cnLen
  have cM := hostMay_l ⟨l, count⟩ hcl (by dsimp only; omega)
  rw [(hostB_iff _).2 H] at cM
  have cA := at_l l count link H.up (by omega)
  rw [ht] at cA
  obtain ⟨i, hi⟩ : ∃ i, posC l link = i := ⟨_, rfl⟩
  rw [hi] at cA hci
  have hrow : (l.map (cnR 0))[(i : Int).toNat]? = some (cnR 0 c) := by simp [hci]
  dsimp only [hoR, cnR, cnL] at cM cA cD ⊢
  refine ACallL.of_ev mixed Tryz.func53 rfl (fun a w => Tryz.call53 a w) (congrArg Array.toList Tryz.results53) Tryz.ntmps53 fun B hB => ?_
  ((conv => whnf); (repeat' ((first | (with_reducible first | refine qif_n ?_ | refine qif_t ‹_› ?_ | refine qif_f ‹_› ?_) | ((with_reducible refine qif_t ?_ ?_); focus decide) | ((with_reducible refine qif_f ?_ ?_); focus decide) | (with_reducible refine And.intro (orderOk_i ?ho) ?_; (case ho => kernel_rfl)) | ((with_reducible refine qif_t ?_ ?_); focus (simp []; done)) | ((with_reducible refine qif_f ?_ ?_); focus (simp []; done)) | (with_reducible first | refine qif_i (fun _ => ?_) (fun _ => ?_) | refine frcVs_i ?_ | refine frcRs_i ?_) | ((with_reducible refine qCall.pure (cM) ?_ ?_ ?_ ?_); rotate_left 4; exact trivial; exact plT; exact plT) | ((with_reducible refine qCall.pure (cA) ?_ ?_ ?_ ?_); rotate_left 4; exact trivial; exact plT; exact plT) | ((with_reducible refine qCall.pure (cD) ?_ ?_ ?_ ?_); rotate_left 4; exact trivial; exact plT; exact plT) | (refine qCase_i (idxL rfl rfl rfl rfl rfl rfl (by omega) hrow) ?_)) <;> (conv => whnf))))
  (refine qConv.of hB [] [(0, 0)] [] (by rfl) ?_; focus ((conv => whnf); (repeat (refine And.intro ?_ ?_; rotate_left; (conv => whnf))); exact trivial; all_goals (try exact andT)))
theorem with_l (F : FuncId) (l : List Cn) (count link : Int) (H : HoI ⟨l, count⟩) (c : Cn) (ht : thereC l link = true) (hci : l[posC l link]? = some c) (y : Stp) (hyl : y.out.length ≤ 100000) (hip : y.c.ip = c.ip) (cD : ACallL Tryz.prog F [.agg (cnR 0 c)] [.perm] (stA y) stH) :
    ACallL Tryz.prog 53 [.agg (hoR ⟨l, count⟩), .val (.int .i64 link), .clo F []] [.perm] (hwA ⟨Ho.put ⟨l, count⟩ (posC l link) y.c, toS c.ip y.out, []⟩) hwH := by
  have px := pl_cns l
  have p1 := pl_bytes c.out
  have p2 := pl_parts c.parts
  have hl := H.len
  dsimp only at hl
  have hcl : ∀ d ∈ l, CnLen d := fun d hd => (H.ok d hd).1.I.cnLen
  have cM := hostMay_l ⟨l, count⟩ hcl (by dsimp only; omega)
  rw [(hostB_iff _).2 H] at cM
  have cA := at_l l count link H.up (by omega)
  rw [ht] at cA
  obtain ⟨i, hi⟩ : ∃ i, posC l link = i := ⟨_, rfl⟩
  rw [hi] at cA hci ⊢
  have hil := (List.getElem?_eq_some_iff.1 hci).1
  have cO := hostOwn_l l count (fun e => by rw [e] at hil; cases hil) (by omega) hcl
  have hrow : (l.map (cnR 0))[(i : Int).toNat]? = some (cnR 0 c) := by simp [hci]
  have cTo := to_l y.c.ip y.out hyl
  rw [hip] at cTo
  unfold Ho.put
  dsimp only
  have hipr : y.c.ip = c.ip := hip
  cases hs0 : (y.c.st == 0)
  · have cSt := set_l l count i y.c hil hs0
    rw [cond_false]
    rw [← hip] at cTo ⊢
    dsimp only [hoR, cnR, cnL, stA] at cM cA cO cD ⊢
    refine ACallL.of_ev mixed Tryz.func53 rfl (fun a w => Tryz.call53 a w) (congrArg Array.toList Tryz.results53) Tryz.ntmps53 fun B hB => ?_
    ((conv => whnf); (repeat' ((first | (with_reducible first | refine qif_n ?_ | refine qif_t ‹_› ?_ | refine qif_f ‹_› ?_) | ((with_reducible refine qif_t ?_ ?_); focus decide) | ((with_reducible refine qif_f ?_ ?_); focus decide) | (with_reducible refine And.intro (orderOk_i ?ho) ?_; (case ho => kernel_rfl)) | ((with_reducible refine qif_t ?_ ?_); focus (simp []; done)) | ((with_reducible refine qif_f ?_ ?_); focus (simp []; done)) | (with_reducible first | refine qif_i (fun _ => ?_) (fun _ => ?_) | refine frcVs_i ?_ | refine frcRs_i ?_) | ((with_reducible refine qCall.pure (cM) ?_ ?_ ?_ ?_); rotate_left 4; exact trivial; exact plT; exact plT) | ((with_reducible refine qCall.pure (cA) ?_ ?_ ?_ ?_); rotate_left 4; exact trivial; exact plT; exact plT) | (refine qCase_i (idxL rfl rfl rfl rfl rfl rfl (by omega) hrow) ?_) | (((with_reducible refine qCall.of (cD) [] [(0, 0)] [] [(1, 3), (2, 4), (3, 5), (4, 6), (5, 7)] [(3, .uniq), (4, .uniq), (5, .uniq), (6, .uniq), (7, .uniq)] (.tup [.agg (cnG 3 4 5 y.c), .glist 6 7 (y.out.map (sgG 7)), .val (.int .i64 0)]) ?hk ?_); (case hk => rfl); (conv => whnf); (repeat (refine And.intro ?_ ?_; (focus (first | exact sideT | (first | exact cns_bor rfl rfl rfl _ rfl | exact cns_setS rfl rfl rfl rfl rfl rfl _ _ _ | exact RowsRen.app (cns_gg rfl rfl rfl _) zR_self))); (conv => whnf))); (fail_if_success (with_reducible first | refine And.intro (eqv_i ?_) ?_ | refine And.intro (ren_i ?_) ?_)))) | (((with_reducible refine qCall.of (cO) [] [(0, 0)] [] [(1, 9), (2, 10), (3, 11), (4, 12)] [(9, cnB' (l.map (cnG 10 11 12))), (10, .uniq), (11, .uniq), (12, .uniq)] (.agg [.sl 9 0 l.length, .val (.int .i64 count)]) ?hk ?_); (case hk => rfl); (conv => whnf); (repeat (refine And.intro ?_ ?_; (focus (first | exact sideT | (first | exact cns_bor rfl rfl rfl _ rfl | exact cns_setS rfl rfl rfl rfl rfl rfl _ _ _ | exact RowsRen.app (cns_gg rfl rfl rfl _) zR_self))); (conv => whnf))); (fail_if_success (with_reducible first | refine And.intro (eqv_i ?_) ?_ | refine And.intro (ren_i ?_) ?_)))) | (((with_reducible refine qCall.of (cSt) [(1, 1), (2, 9)] [(0, 0), (3, 3), (4, 4), (5, 5), (6, 10), (7, 11), (8, 12)] [] [] [(1, hoB 9 l.length count), (9, cnB' ((l.map (cnG 10 11 12)).set i (cnG 3 4 5 y.c)))] (.tup []) ?hk ?_); (case hk => rfl); (conv => whnf); (repeat (refine And.intro ?_ ?_; (focus (first | exact sideT | (first | exact cns_bor rfl rfl rfl _ rfl | exact cns_setS rfl rfl rfl rfl rfl rfl _ _ _ | exact RowsRen.app (cns_gg rfl rfl rfl _) zR_self))); (conv => whnf))); (fail_if_success (with_reducible first | refine And.intro (eqv_i ?_) ?_ | refine And.intro (ren_i ?_) ?_)))) | (((with_reducible refine qCall.of (cTo) [] [(0, 0), (1, 6), (2, 7)] [] [(3, 13)] [(13, .uniq)] (.glist 13 8 ((toS y.c.ip y.out).map (snG 7))) ?hk ?_); (case hk => rfl); (conv => whnf); (repeat (refine And.intro ?_ ?_; (focus (first | exact sideT | (first | exact cns_bor rfl rfl rfl _ rfl | exact cns_setS rfl rfl rfl rfl rfl rfl _ _ _ | exact RowsRen.app (cns_gg rfl rfl rfl _) zR_self))); (conv => whnf))); (fail_if_success (with_reducible first | refine And.intro (eqv_i ?_) ?_ | refine And.intro (ren_i ?_) ?_))))) <;> (conv => whnf))))
    (refine qConv.of hB [] [(0, 0), (10, 2), (3, 2), (11, 3), (4, 3), (12, 4), (5, 4), (13, 5), (7, 6)] [(9, 1)] (by rfl) ?_; focus ((conv => whnf); (repeat (refine And.intro ?_ ?_; rotate_left; (conv => whnf))); exact trivial; all_goals (try exact andT)))
    all_goals first | rfl | exact cns_setF rfl rfl rfl rfl rfl rfl _ _ _ rfl | exact sns_gg rfl _ | (exact rowsT) | trace_state
  · have cSt := set_no l count i y.c hil (by omega) hs0
    rw [cond_true]
    rw [← hip] at cTo ⊢
    dsimp only [hoR, cnR, cnL, stA] at cM cA cO cD ⊢
    refine ACallL.of_ev mixed Tryz.func53 rfl (fun a w => Tryz.call53 a w) (congrArg Array.toList Tryz.results53) Tryz.ntmps53 fun B hB => ?_
    ((conv => whnf); (repeat' ((first | (with_reducible first | refine qif_n ?_ | refine qif_t ‹_› ?_ | refine qif_f ‹_› ?_) | ((with_reducible refine qif_t ?_ ?_); focus decide) | ((with_reducible refine qif_f ?_ ?_); focus decide) | (with_reducible refine And.intro (orderOk_i ?ho) ?_; (case ho => kernel_rfl)) | ((with_reducible refine qif_t ?_ ?_); focus (simp []; done)) | ((with_reducible refine qif_f ?_ ?_); focus (simp []; done)) | (with_reducible first | refine qif_i (fun _ => ?_) (fun _ => ?_) | refine frcVs_i ?_ | refine frcRs_i ?_) | ((with_reducible refine qCall.pure (cM) ?_ ?_ ?_ ?_); rotate_left 4; exact trivial; exact plT; exact plT) | ((with_reducible refine qCall.pure (cA) ?_ ?_ ?_ ?_); rotate_left 4; exact trivial; exact plT; exact plT) | (refine qCase_i (idxL rfl rfl rfl rfl rfl rfl (by omega) hrow) ?_) | (((with_reducible refine qCall.of (cD) [] [(0, 0)] [] [(1, 3), (2, 4), (3, 5), (4, 6), (5, 7)] [(3, .uniq), (4, .uniq), (5, .uniq), (6, .uniq), (7, .uniq)] (.tup [.agg (cnG 3 4 5 y.c), .glist 6 7 (y.out.map (sgG 7)), .val (.int .i64 0)]) ?hk ?_); (case hk => rfl); (conv => whnf); (repeat (refine And.intro ?_ ?_; (focus (first | exact sideT | (first | exact cns_bor rfl rfl rfl _ rfl | exact cns_setS rfl rfl rfl rfl rfl rfl _ _ _ | exact RowsRen.app (cns_gg rfl rfl rfl _) zR_self))); (conv => whnf))); (fail_if_success (with_reducible first | refine And.intro (eqv_i ?_) ?_ | refine And.intro (ren_i ?_) ?_)))) | (((with_reducible refine qCall.of (cO) [] [(0, 0)] [] [(1, 9), (2, 10), (3, 11), (4, 12)] [(9, cnB' (l.map (cnG 10 11 12))), (10, .uniq), (11, .uniq), (12, .uniq)] (.agg [.sl 9 0 l.length, .val (.int .i64 count)]) ?hk ?_); (case hk => rfl); (conv => whnf); (repeat (refine And.intro ?_ ?_; (focus (first | exact sideT | (first | exact cns_bor rfl rfl rfl _ rfl | exact cns_setS rfl rfl rfl rfl rfl rfl _ _ _ | exact RowsRen.app (cns_gg rfl rfl rfl _) zR_self))); (conv => whnf))); (fail_if_success (with_reducible first | refine And.intro (eqv_i ?_) ?_ | refine And.intro (ren_i ?_) ?_)))) | (((with_reducible refine qCall.of (cSt) [(1, 1), (2, 9)] [(0, 0), (3, 3), (4, 4), (5, 5), (6, 10), (7, 11), (8, 12)] [] [] [(1, hoB 9 (l.length - 1) count), (9, cnB' ((l.eraseIdx i).map (cnG 10 11 12) ++ [zR]))] (.tup []) ?hk ?_); (case hk => rfl); (conv => whnf); (repeat (refine And.intro ?_ ?_; (focus (first | exact sideT | (first | exact cns_bor rfl rfl rfl _ rfl | exact cns_setS rfl rfl rfl rfl rfl rfl _ _ _ | exact RowsRen.app (cns_gg rfl rfl rfl _) zR_self))); (conv => whnf))); (fail_if_success (with_reducible first | refine And.intro (eqv_i ?_) ?_ | refine And.intro (ren_i ?_) ?_)))) | (((with_reducible refine qCall.of (cTo) [] [(0, 0), (1, 6), (2, 7)] [] [(3, 13)] [(13, .uniq)] (.glist 13 8 ((toS y.c.ip y.out).map (snG 7))) ?hk ?_); (case hk => rfl); (conv => whnf); (repeat (refine And.intro ?_ ?_; (focus (first | exact sideT | (first | exact cns_bor rfl rfl rfl _ rfl | exact cns_setS rfl rfl rfl rfl rfl rfl _ _ _ | exact RowsRen.app (cns_gg rfl rfl rfl _) zR_self))); (conv => whnf))); (fail_if_success (with_reducible first | refine And.intro (eqv_i ?_) ?_ | refine And.intro (ren_i ?_) ?_))))) <;> (conv => whnf))))
    (refine qConv.of hB [] [(0, 0), (10, 2), (11, 3), (12, 4), (13, 5), (7, 6)] [(9, 1)] (by rfl) ?_; focus ((conv => whnf); (repeat (refine And.intro ?_ ?_; rotate_left; (conv => whnf))); exact trivial; all_goals (try exact andT)))
    all_goals first | rfl | exact cns_eraF rfl rfl rfl _ hil rfl | exact sns_gg rfl _ | (exact rowsT) | trace_state
end Go.Proofs.YtceohcbokbalhaaGreat

/- Bytes are sent by a host's connection: on data. Conditions: what may be. -/
-- sideX: first | exact cns_bor rfl rfl rfl _ rfl | exact cns_setS rfl rfl rfl rfl rfl rfl _ _ _ | exact RowsRen.app (cns_gg rfl rfl rfl _) zR_self
namespace Go.Proofs.YtceohcbokbalhaaGreat
open Go.RowKit
set_option linter.unusedVariables false
set_option linter.unusedSimpArgs false
set_option maxRecDepth 100000
set_option maxHeartbeats 4000000
abbrev bxB (xs : List Int) : Own := .live ⟨1, 37, [[bL 2 xs]]⟩
abbrev hwB (y : Hs) : AV := .tup [.agg [.glist 3 16 (y.h.conns.map (cnG 4 5 6)), .val (.int .i64 y.h.count)], .glist 7 8 (y.out.map (snG 8)), .val (.int .i64 0)]
abbrev hwHB (xs : List Int) : List Own := [.perm, bxB xs, .perm, .uniq, .uniq, .uniq, .uniq, .uniq, .uniq]
theorem with_no1B (F : FuncId) (xs : List Int) (h : Ho) (link : Int) (hc : ∀ c ∈ h.conns, CnLen c) (hl : h.conns.length ≤ 100000000) (hno : hostB h = false) :
    ACallL Tryz.prog 53 [.agg (hoR h), .val (.int .i64 link), .clo F [.ptr 1 0 0]] [.perm, bxB xs, .perm] (hwNo 1) [.perm, bxB xs, .perm] := by
  have px := pl_cns h.conns
  have cM := hostMay_l h hc hl
  rw [hno] at cM
  dsimp only [hoR] at cM ⊢
  refine ACallL.of_ev mixed Tryz.func53 rfl (fun a w => Tryz.call53 a w) (congrArg Array.toList Tryz.results53) Tryz.ntmps53 fun B hB => ?_
  ((conv => whnf); (repeat' ((first | (with_reducible first | refine qif_n ?_ | refine qif_t ‹_› ?_ | refine qif_f ‹_› ?_) | ((with_reducible refine qif_t ?_ ?_); focus decide) | ((with_reducible refine qif_f ?_ ?_); focus decide) | (with_reducible refine And.intro (orderOk_i ?ho) ?_; (case ho => kernel_rfl)) | ((with_reducible refine qif_t ?_ ?_); focus (simp []; done)) | ((with_reducible refine qif_f ?_ ?_); focus (simp []; done)) | (with_reducible first | refine qif_i (fun _ => ?_) (fun _ => ?_) | refine frcVs_i ?_ | refine frcRs_i ?_) | ((with_reducible refine qCall.pure (cM) ?_ ?_ ?_ ?_); rotate_left 4; exact trivial; exact plT; exact plT)) <;> (conv => whnf))))
  (refine qConv.of hB [(1, 1)] [(0, 0), (2, 2)] [] (by rfl) ?_; focus ((conv => whnf); (repeat (refine And.intro ?_ ?_; rotate_left; (conv => whnf))); exact trivial; all_goals (try exact andT)))
  all_goals first | rfl | (exact rowsT)
theorem with_no3B (F : FuncId) (xs : List Int) (l : List Cn) (count link : Int) (H : HoI ⟨l, count⟩) (hno : thereC l link = false) :
    ACallL Tryz.prog 53 [.agg (hoR ⟨l, count⟩), .val (.int .i64 link), .clo F [.ptr 1 0 0]] [.perm, bxB xs, .perm] (hwNo 3) [.perm, bxB xs, .perm] := by
  have px := pl_cns l
  have hl := H.len
  dsimp only at hl
  have hcl : ∀ d ∈ l, CnLen d := fun d hd => (H.ok d hd).1.I.cnLen
  have cM := hostMay_l ⟨l, count⟩ hcl (by dsimp only; omega)
  rw [(hostB_iff _).2 H] at cM
  have cA := at_l l count link H.up (by omega)
  rw [hno] at cA
  dsimp only [hoR] at cM cA ⊢
  refine ACallL.of_ev mixed Tryz.func53 rfl (fun a w => Tryz.call53 a w) (congrArg Array.toList Tryz.results53) Tryz.ntmps53 fun B hB => ?_
  ((conv => whnf); (repeat' ((first | (with_reducible first | refine qif_n ?_ | refine qif_t ‹_› ?_ | refine qif_f ‹_› ?_) | ((with_reducible refine qif_t ?_ ?_); focus decide) | ((with_reducible refine qif_f ?_ ?_); focus decide) | (with_reducible refine And.intro (orderOk_i ?ho) ?_; (case ho => kernel_rfl)) | ((with_reducible refine qif_t ?_ ?_); focus (simp []; done)) | ((with_reducible refine qif_f ?_ ?_); focus (simp []; done)) | (with_reducible first | refine qif_i (fun _ => ?_) (fun _ => ?_) | refine frcVs_i ?_ | refine frcRs_i ?_) | ((with_reducible refine qCall.pure (cM) ?_ ?_ ?_ ?_); rotate_left 4; exact trivial; exact plT; exact plT) | ((with_reducible refine qCall.pure (cA) ?_ ?_ ?_ ?_); rotate_left 4; exact trivial; exact plT; exact plT)) <;> (conv => whnf))))
  (refine qConv.of hB [(1, 1)] [(0, 0), (2, 2)] [] (by rfl) ?_; focus ((conv => whnf); (repeat (refine And.intro ?_ ?_; rotate_left; (conv => whnf))); exact trivial; all_goals (try exact andT)))
  all_goals first | rfl | (exact rowsT)
theorem with_noEB (F : FuncId) (xs : List Int) (l : List Cn) (count link e : Int) (H : HoI ⟨l, count⟩) (c : Cn) (ht : thereC l link = true) (hci : l[posC l link]? = some c) (he : (e != 0) = true) (cD : ACallL Tryz.prog F [.agg (cnR 0 c), .ptr 1 0 0] [.perm, bxB xs, .perm] (stNo e) [.perm, bxB xs, .perm]) :
    ACallL Tryz.prog 53 [.agg (hoR ⟨l, count⟩), .val (.int .i64 link), .clo F [.ptr 1 0 0]] [.perm, bxB xs, .perm] (hwNo e) [.perm, bxB xs, .perm] := by
  have px := pl_cns l
  have p1 := pl_bytes c.out
  have p2 := pl_parts c.parts
  have hl := H.len
  dsimp only at hl
  have hcl : ∀ d ∈ l, CnLen d := fun d hd => (H.ok d hd).1.I.cnLen
  have cM := hostMay_l ⟨l, count⟩ hcl (by dsimp only; omega)
  rw [(hostB_iff _).2 H] at cM
  have cA := at_l l count link H.up (by omega)
  rw [ht] at cA
  obtain ⟨i, hi⟩ : ∃ i, posC l link = i := ⟨_, rfl⟩
  rw [hi] at cA hci
  have hrow : (l.map (cnR 0))[(i : Int).toNat]? = some (cnR 0 c) := by simp [hci]
  dsimp only [hoR, cnR, cnL] at cM cA cD ⊢
  refine ACallL.of_ev mixed Tryz.func53 rfl (fun a w => Tryz.call53 a w) (congrArg Array.toList Tryz.results53) Tryz.ntmps53 fun B hB => ?_
  ((conv => whnf); (repeat' ((first | (with_reducible first | refine qif_n ?_ | refine qif_t ‹_› ?_ | refine qif_f ‹_› ?_) | ((with_reducible refine qif_t ?_ ?_); focus decide) | ((with_reducible refine qif_f ?_ ?_); focus decide) | (with_reducible refine And.intro (orderOk_i ?ho) ?_; (case ho => kernel_rfl)) | ((with_reducible refine qif_t ?_ ?_); focus (simp []; done)) | ((with_reducible refine qif_f ?_ ?_); focus (simp []; done)) | (with_reducible first | refine qif_i (fun _ => ?_) (fun _ => ?_) | refine frcVs_i ?_ | refine frcRs_i ?_) | ((with_reducible refine qCall.pure (cM) ?_ ?_ ?_ ?_); rotate_left 4; exact trivial; exact plT; exact plT) | ((with_reducible refine qCall.pure (cA) ?_ ?_ ?_ ?_); rotate_left 4; exact trivial; exact plT; exact plT) | (((with_reducible refine qCall.of (cD) [(1, 1)] [(0, 0), (2, 2)] [] [] [(1, bxB xs)] (stNo e) ?hk ?_); (case hk => rfl); (conv => whnf); (repeat (refine And.intro ?_ ?_; (focus (first | exact sideT | (first | exact cns_bor rfl rfl rfl _ rfl | exact cns_setS rfl rfl rfl rfl rfl rfl _ _ _ | exact RowsRen.app (cns_gg rfl rfl rfl _) zR_self))); (conv => whnf))); (fail_if_success (with_reducible first | refine And.intro (eqv_i ?_) ?_ | refine And.intro (ren_i ?_) ?_)))) | (refine qCase_i (idxL rfl rfl rfl rfl rfl rfl (by omega) hrow) ?_)) <;> (conv => whnf))))
  (refine qConv.of hB [(1, 1)] [(0, 0), (2, 2)] [] (by rfl) ?_; focus ((conv => whnf); (repeat (refine And.intro ?_ ?_; rotate_left; (conv => whnf))); exact trivial; all_goals (try exact andT)))
  all_goals first | rfl | (exact rowsT)
theorem with_lB (F : FuncId) (xs : List Int) (l : List Cn) (count link : Int) (H : HoI ⟨l, count⟩) (c : Cn) (ht : thereC l link = true) (hci : l[posC l link]? = some c) (y : Stp) (hyl : y.out.length ≤ 100000) (hip : y.c.ip = c.ip) (cD : ACallL Tryz.prog F [.agg (cnR 0 c), .ptr 1 0 0] [.perm, bxB xs, .perm] (.tup [.agg (cnG 3 4 5 y.c), .glist 6 7 (y.out.map (sgG 7)), .val (.int .i64 0)]) [.perm, bxB xs, .perm, .uniq, .uniq, .uniq, .uniq, .uniq]) :
    ACallL Tryz.prog 53 [.agg (hoR ⟨l, count⟩), .val (.int .i64 link), .clo F [.ptr 1 0 0]] [.perm, bxB xs, .perm] (hwB ⟨Ho.put ⟨l, count⟩ (posC l link) y.c, toS c.ip y.out, []⟩) (hwHB xs) := by
  have px := pl_cns l
  have p1 := pl_bytes c.out
  have p2 := pl_parts c.parts
  have hl := H.len
  dsimp only at hl
  have hcl : ∀ d ∈ l, CnLen d := fun d hd => (H.ok d hd).1.I.cnLen
  have cM := hostMay_l ⟨l, count⟩ hcl (by dsimp only; omega)
  rw [(hostB_iff _).2 H] at cM
  have cA := at_l l count link H.up (by omega)
  rw [ht] at cA
  obtain ⟨i, hi⟩ : ∃ i, posC l link = i := ⟨_, rfl⟩
  rw [hi] at cA hci ⊢
  have hil := (List.getElem?_eq_some_iff.1 hci).1
  have cO := hostOwn_l l count (fun e => by rw [e] at hil; cases hil) (by omega) hcl
  have hrow : (l.map (cnR 0))[(i : Int).toNat]? = some (cnR 0 c) := by simp [hci]
  have cTo := to_l y.c.ip y.out hyl
  rw [hip] at cTo
  unfold Ho.put
  dsimp only
  have hipr : y.c.ip = c.ip := hip
  cases hs0 : (y.c.st == 0)
  · have cSt := set_l l count i y.c hil hs0
    rw [cond_false]
    rw [← hip] at cTo ⊢
    dsimp only [hoR, cnR, cnL, stA] at cM cA cO cD ⊢
    refine ACallL.of_ev mixed Tryz.func53 rfl (fun a w => Tryz.call53 a w) (congrArg Array.toList Tryz.results53) Tryz.ntmps53 fun B hB => ?_
    ((conv => whnf); (repeat' ((first | (with_reducible first | refine qif_n ?_ | refine qif_t ‹_› ?_ | refine qif_f ‹_› ?_) | ((with_reducible refine qif_t ?_ ?_); focus decide) | ((with_reducible refine qif_f ?_ ?_); focus decide) | (with_reducible refine And.intro (orderOk_i ?ho) ?_; (case ho => kernel_rfl)) | ((with_reducible refine qif_t ?_ ?_); focus (simp []; done)) | ((with_reducible refine qif_f ?_ ?_); focus (simp []; done)) | (with_reducible first | refine qif_i (fun _ => ?_) (fun _ => ?_) | refine frcVs_i ?_ | refine frcRs_i ?_) | ((with_reducible refine qCall.pure (cM) ?_ ?_ ?_ ?_); rotate_left 4; exact trivial; exact plT; exact plT) | ((with_reducible refine qCall.pure (cA) ?_ ?_ ?_ ?_); rotate_left 4; exact trivial; exact plT; exact plT) | (refine qCase_i (idxL rfl rfl rfl rfl rfl rfl (by omega) hrow) ?_) | (((with_reducible refine qCall.of (cD) [(1, 1)] [(0, 0), (2, 2)] [] [(3, 5), (4, 6), (5, 7), (6, 8), (7, 9)] [(1, bxB xs), (5, .uniq), (6, .uniq), (7, .uniq), (8, .uniq), (9, .uniq)] (.tup [.agg (cnG 5 6 7 y.c), .glist 8 7 (y.out.map (sgG 9)), .val (.int .i64 0)]) ?hk ?_); (case hk => rfl); (conv => whnf); (repeat (refine And.intro ?_ ?_; (focus (first | exact sideT | (first | exact cns_bor rfl rfl rfl _ rfl | exact cns_setS rfl rfl rfl rfl rfl rfl _ _ _ | exact RowsRen.app (cns_gg rfl rfl rfl _) zR_self))); (conv => whnf))); (fail_if_success (with_reducible first | refine And.intro (eqv_i ?_) ?_ | refine And.intro (ren_i ?_) ?_)))) | (((with_reducible refine qCall.of (cO) [] [(0, 0)] [] [(1, 11), (2, 12), (3, 13), (4, 14)] [(11, cnB' (l.map (cnG 12 13 14))), (12, .uniq), (13, .uniq), (14, .uniq)] (.agg [.sl 11 0 l.length, .val (.int .i64 count)]) ?hk ?_); (case hk => rfl); (conv => whnf); (repeat (refine And.intro ?_ ?_; (focus (first | exact sideT | (first | exact cns_bor rfl rfl rfl _ rfl | exact cns_setS rfl rfl rfl rfl rfl rfl _ _ _ | exact RowsRen.app (cns_gg rfl rfl rfl _) zR_self))); (conv => whnf))); (fail_if_success (with_reducible first | refine And.intro (eqv_i ?_) ?_ | refine And.intro (ren_i ?_) ?_)))) | (((with_reducible refine qCall.of (cSt) [(1, 3), (2, 11)] [(0, 0), (3, 5), (4, 6), (5, 7), (6, 12), (7, 13), (8, 14)] [] [] [(3, hoB 11 l.length count), (11, cnB' ((l.map (cnG 12 13 14)).set i (cnG 5 6 7 y.c)))] (.tup []) ?hk ?_); (case hk => rfl); (conv => whnf); (repeat (refine And.intro ?_ ?_; (focus (first | exact sideT | (first | exact cns_bor rfl rfl rfl _ rfl | exact cns_setS rfl rfl rfl rfl rfl rfl _ _ _ | exact RowsRen.app (cns_gg rfl rfl rfl _) zR_self))); (conv => whnf))); (fail_if_success (with_reducible first | refine And.intro (eqv_i ?_) ?_ | refine And.intro (ren_i ?_) ?_)))) | (((with_reducible refine qCall.of (cTo) [] [(0, 0), (1, 8), (2, 9)] [] [(3, 15)] [(15, .uniq)] (.glist 15 8 ((toS y.c.ip y.out).map (snG 9))) ?hk ?_); (case hk => rfl); (conv => whnf); (repeat (refine And.intro ?_ ?_; (focus (first | exact sideT | (first | exact cns_bor rfl rfl rfl _ rfl | exact cns_setS rfl rfl rfl rfl rfl rfl _ _ _ | exact RowsRen.app (cns_gg rfl rfl rfl _) zR_self))); (conv => whnf))); (fail_if_success (with_reducible first | refine And.intro (eqv_i ?_) ?_ | refine And.intro (ren_i ?_) ?_))))) <;> (conv => whnf))))
    (refine qConv.of hB [(1, 1)] [(0, 0), (2, 2), (12, 4), (5, 4), (13, 5), (6, 5), (14, 6), (7, 6), (15, 7), (9, 8)] [(11, 3)] (by rfl) ?_; focus ((conv => whnf); (repeat (refine And.intro ?_ ?_; rotate_left; (conv => whnf))); exact trivial; all_goals (try exact andT)))
    all_goals first | rfl | exact cns_setF rfl rfl rfl rfl rfl rfl _ _ _ rfl | exact sns_gg rfl _ | (exact rowsT) | trace_state
  · have cSt := set_no l count i y.c hil (by omega) hs0
    rw [cond_true]
    rw [← hip] at cTo ⊢
    dsimp only [hoR, cnR, cnL, stA] at cM cA cO cD ⊢
    refine ACallL.of_ev mixed Tryz.func53 rfl (fun a w => Tryz.call53 a w) (congrArg Array.toList Tryz.results53) Tryz.ntmps53 fun B hB => ?_
    ((conv => whnf); (repeat' ((first | (with_reducible first | refine qif_n ?_ | refine qif_t ‹_› ?_ | refine qif_f ‹_› ?_) | ((with_reducible refine qif_t ?_ ?_); focus decide) | ((with_reducible refine qif_f ?_ ?_); focus decide) | (with_reducible refine And.intro (orderOk_i ?ho) ?_; (case ho => kernel_rfl)) | ((with_reducible refine qif_t ?_ ?_); focus (simp []; done)) | ((with_reducible refine qif_f ?_ ?_); focus (simp []; done)) | (with_reducible first | refine qif_i (fun _ => ?_) (fun _ => ?_) | refine frcVs_i ?_ | refine frcRs_i ?_) | ((with_reducible refine qCall.pure (cM) ?_ ?_ ?_ ?_); rotate_left 4; exact trivial; exact plT; exact plT) | ((with_reducible refine qCall.pure (cA) ?_ ?_ ?_ ?_); rotate_left 4; exact trivial; exact plT; exact plT) | (refine qCase_i (idxL rfl rfl rfl rfl rfl rfl (by omega) hrow) ?_) | (((with_reducible refine qCall.of (cD) [(1, 1)] [(0, 0), (2, 2)] [] [(3, 5), (4, 6), (5, 7), (6, 8), (7, 9)] [(1, bxB xs), (5, .uniq), (6, .uniq), (7, .uniq), (8, .uniq), (9, .uniq)] (.tup [.agg (cnG 5 6 7 y.c), .glist 8 7 (y.out.map (sgG 9)), .val (.int .i64 0)]) ?hk ?_); (case hk => rfl); (conv => whnf); (repeat (refine And.intro ?_ ?_; (focus (first | exact sideT | (first | exact cns_bor rfl rfl rfl _ rfl | exact cns_setS rfl rfl rfl rfl rfl rfl _ _ _ | exact RowsRen.app (cns_gg rfl rfl rfl _) zR_self))); (conv => whnf))); (fail_if_success (with_reducible first | refine And.intro (eqv_i ?_) ?_ | refine And.intro (ren_i ?_) ?_)))) | (((with_reducible refine qCall.of (cO) [] [(0, 0)] [] [(1, 11), (2, 12), (3, 13), (4, 14)] [(11, cnB' (l.map (cnG 12 13 14))), (12, .uniq), (13, .uniq), (14, .uniq)] (.agg [.sl 11 0 l.length, .val (.int .i64 count)]) ?hk ?_); (case hk => rfl); (conv => whnf); (repeat (refine And.intro ?_ ?_; (focus (first | exact sideT | (first | exact cns_bor rfl rfl rfl _ rfl | exact cns_setS rfl rfl rfl rfl rfl rfl _ _ _ | exact RowsRen.app (cns_gg rfl rfl rfl _) zR_self))); (conv => whnf))); (fail_if_success (with_reducible first | refine And.intro (eqv_i ?_) ?_ | refine And.intro (ren_i ?_) ?_)))) | (((with_reducible refine qCall.of (cSt) [(1, 3), (2, 11)] [(0, 0), (3, 5), (4, 6), (5, 7), (6, 12), (7, 13), (8, 14)] [] [] [(3, hoB 11 (l.length - 1) count), (11, cnB' ((l.eraseIdx i).map (cnG 12 13 14) ++ [zR]))] (.tup []) ?hk ?_); (case hk => rfl); (conv => whnf); (repeat (refine And.intro ?_ ?_; (focus (first | exact sideT | (first | exact cns_bor rfl rfl rfl _ rfl | exact cns_setS rfl rfl rfl rfl rfl rfl _ _ _ | exact RowsRen.app (cns_gg rfl rfl rfl _) zR_self))); (conv => whnf))); (fail_if_success (with_reducible first | refine And.intro (eqv_i ?_) ?_ | refine And.intro (ren_i ?_) ?_)))) | (((with_reducible refine qCall.of (cTo) [] [(0, 0), (1, 8), (2, 9)] [] [(3, 15)] [(15, .uniq)] (.glist 15 8 ((toS y.c.ip y.out).map (snG 9))) ?hk ?_); (case hk => rfl); (conv => whnf); (repeat (refine And.intro ?_ ?_; (focus (first | exact sideT | (first | exact cns_bor rfl rfl rfl _ rfl | exact cns_setS rfl rfl rfl rfl rfl rfl _ _ _ | exact RowsRen.app (cns_gg rfl rfl rfl _) zR_self))); (conv => whnf))); (fail_if_success (with_reducible first | refine And.intro (eqv_i ?_) ?_ | refine And.intro (ren_i ?_) ?_))))) <;> (conv => whnf))))
    (refine qConv.of hB [(1, 1)] [(0, 0), (2, 2), (12, 4), (13, 5), (14, 6), (15, 7), (9, 8)] [(11, 3)] (by rfl) ?_; focus ((conv => whnf); (repeat (refine And.intro ?_ ?_; rotate_left; (conv => whnf))); exact trivial; all_goals (try exact andT)))
    all_goals first | rfl | exact cns_eraF rfl rfl rfl _ hil rfl | exact sns_gg rfl _ | (exact rowsT) | trace_state
end Go.Proofs.YtceohcbokbalhaaGreat

/- A host sends, closes, aborts: on data. Conditions: lengths; what may be. -/
namespace Go.Proofs.YtceohcbokbalhaaGreat
open Go.RowKit
set_option linter.unusedVariables false
set_option linter.unusedSimpArgs false
set_option maxRecDepth 100000
set_option maxHeartbeats 4000000
def withErr (h : Ho) (link : Int) (e : Cn → Int) : Int := bif hostB h then h.withE link e else 1
theorem with_any (F : FuncId) (eF : Cn → Int) (f : Cn → Stp) (h : Ho) (link : Int) (hc : ∀ c ∈ h.conns, CnLen c) (hl : h.conns.length ≤ 100000000)
    (hno : ∀ c ∈ h.conns, CnI c → eF c ≠ 0 → ACallL Tryz.prog F [.agg (cnR 0 c)] [.perm] (stNo (eF c)) [.perm])
    (hok : ∀ c ∈ h.conns, CnI c → eF c = 0 → ACallL Tryz.prog F [.agg (cnR 0 c)] [.perm] (stA (f c)) stH ∧ StI c 8200 (f c)) :
    (withErr h link eF ≠ 0 → ACallL Tryz.prog 53 [.agg (hoR h), .val (.int .i64 link), .clo F []] [.perm] (hwNo (withErr h link eF)) [.perm]) ∧
    (withErr h link eF = 0 → ACallL Tryz.prog 53 [.agg (hoR h), .val (.int .i64 link), .clo F []] [.perm] (hwA (h.withS link f)) hwH) := by
  obtain ⟨l, count⟩ := h
  unfold withErr
  cases hb : hostB ⟨l, count⟩ with
  | false =>
    rw [cond_false]
    exact ⟨fun _ => with_no1 F ⟨l, count⟩ link hc hl hb, fun h => absurd h (by decide)⟩
  | true =>
    rw [cond_true]
    have H := (hostB_iff _).1 hb
    cases ht : thereC l link with
    | false =>
      have ha := at_none (count := count) H.up ht
      unfold Ho.withE
      rw [ha]
      exact ⟨fun _ => with_no3 F l count link H ht, fun h => absurd (show (3 : Int) = 0 from h) (by decide)⟩
    | true =>
      obtain ⟨c, hci, hlk, ha⟩ := at_some (count := count) H.up ht
      have hm := List.mem_of_getElem? hci
      have hI := (H.ok c hm).1.I
      have hg : l.getD (posC l link) cnZ = c := by simp [List.getD, hci]
      unfold Ho.withE Ho.withS
      rw [ha]
      dsimp only
      rw [hg]
      refine ⟨fun he => with_noE F l count link (eF c) H c ht hci (by simpa using he) (hno c hm hI he), fun he => ?_⟩
      obtain ⟨k1, k2⟩ := hok c hm hI he
      exact with_l F l count link H c ht hci (f c) (Nat.le_trans k2.cnt (by decide)) k2.e2 k1
theorem with_anyB (F : FuncId) (xs : List Int) (eF : Cn → Int) (f : Cn → Stp) (h : Ho) (link : Int) (hc : ∀ c ∈ h.conns, CnLen c) (hl : h.conns.length ≤ 100000000)
    (hno : ∀ c ∈ h.conns, CnI c → eF c ≠ 0 → ACallL Tryz.prog F [.agg (cnR 0 c), .ptr 1 0 0] [.perm, bxB xs, .perm] (stNo (eF c)) [.perm, bxB xs, .perm])
    (hok : ∀ c ∈ h.conns, CnI c → eF c = 0 → ACallL Tryz.prog F [.agg (cnR 0 c), .ptr 1 0 0] [.perm, bxB xs, .perm] (.tup [.agg (cnG 3 4 5 (f c).c), .glist 6 7 ((f c).out.map (sgG 7)), .val (.int .i64 0)]) [.perm, bxB xs, .perm, .uniq, .uniq, .uniq, .uniq, .uniq] ∧ StI c 8200 (f c)) :
    (withErr h link eF ≠ 0 → ACallL Tryz.prog 53 [.agg (hoR h), .val (.int .i64 link), .clo F [.ptr 1 0 0]] [.perm, bxB xs, .perm] (hwNo (withErr h link eF)) [.perm, bxB xs, .perm]) ∧
    (withErr h link eF = 0 → ACallL Tryz.prog 53 [.agg (hoR h), .val (.int .i64 link), .clo F [.ptr 1 0 0]] [.perm, bxB xs, .perm] (hwB (h.withS link f)) (hwHB xs)) := by
  obtain ⟨l, count⟩ := h
  unfold withErr
  cases hb : hostB ⟨l, count⟩ with
  | false =>
    rw [cond_false]
    exact ⟨fun _ => with_no1B F xs ⟨l, count⟩ link hc hl hb, fun h => absurd h (by decide)⟩
  | true =>
    rw [cond_true]
    have H := (hostB_iff _).1 hb
    cases ht : thereC l link with
    | false =>
      have ha := at_none (count := count) H.up ht
      unfold Ho.withE
      rw [ha]
      exact ⟨fun _ => with_no3B F xs l count link H ht, fun h => absurd (show (3 : Int) = 0 from h) (by decide)⟩
    | true =>
      obtain ⟨c, hci, hlk, ha⟩ := at_some (count := count) H.up ht
      have hm := List.mem_of_getElem? hci
      have hI := (H.ok c hm).1.I
      have hg : l.getD (posC l link) cnZ = c := by simp [List.getD, hci]
      unfold Ho.withE Ho.withS
      rw [ha]
      dsimp only
      rw [hg]
      refine ⟨fun he => with_noEB F xs l count link (eF c) H c ht hci (by simpa using he) (hno c hm hI he), fun he => ?_⟩
      obtain ⟨k1, k2⟩ := hok c hm hI he
      exact with_lB F xs l count link H c ht hci (f c) (Nat.le_trans k2.cnt (by decide)) k2.e2 k1
theorem sendC_no (c : Cn) (xs : List Int) (hI : CnI c) (hx : xs.length ≤ 100000000) (he : c.sendE xs ≠ 0) : ACallL Tryz.prog 54 [.agg (cnR 0 c), .ptr 1 0 0] [.perm, bxB xs, .perm] (stNo (c.sendE xs)) [.perm, bxB xs, .perm] := by
  have cS := tcpSend_no c xs hI.cnLen hx (.inr he)
  rw [errB, (cnB_iff _).2 hI, cond_true] at cS
  have p1 := pl_bytes c.out
  have p2 := pl_parts c.parts
  dsimp only [cnR, cnL] at cS ⊢
  refine ACallL.of_ev mixed Tryz.func54 rfl (fun a w => Tryz.call54 a w) (congrArg Array.toList Tryz.results54) Tryz.ntmps54 fun B hB => ?_
  ((conv => whnf); (repeat' ((first | (with_reducible first | refine qif_n ?_ | refine qif_t ‹_› ?_ | refine qif_f ‹_› ?_) | ((with_reducible refine qif_t ?_ ?_); focus decide) | ((with_reducible refine qif_f ?_ ?_); focus decide) | (with_reducible refine And.intro (orderOk_i ?ho) ?_; (case ho => kernel_rfl)) | ((with_reducible refine qif_t ?_ ?_); focus (simp []; done)) | ((with_reducible refine qif_f ?_ ?_); focus (simp []; done)) | (with_reducible first | refine qif_i (fun _ => ?_) (fun _ => ?_) | refine frcVs_i ?_ | refine frcRs_i ?_) | (((with_reducible refine qCall.reads (cS) [(0, 0), (0, 2)] [] ?hk ?_); (case hk => rfl); (conv => whnf); (repeat (refine And.intro ?_ ?_; exact sideT; (conv => whnf))); (fail_if_success (with_reducible first | refine And.intro (eqv_i ?_) ?_ | refine And.intro (ren_i ?_) ?_))))) <;> (conv => whnf))))
  (refine qConv.of hB [(1, 1)] [(0, 0), (2, 2)] [] (by rfl) ?_; focus ((conv => whnf); (repeat (refine And.intro ?_ ?_; rotate_left; (conv => whnf))); exact trivial; all_goals (try exact andT)))
  all_goals first | rfl | (exact rowsT)
theorem sendC_l (c : Cn) (xs : List Int) (hI : CnI c) (he : c.sendE xs = 0) : ACallL Tryz.prog 54 [.agg (cnR 0 c), .ptr 1 0 0] [.perm, bxB xs, .perm] (.tup [.agg (cnG 3 4 5 (c.sends xs).c), .glist 6 7 ((c.sends xs).out.map (sgG 7)), .val (.int .i64 0)]) [.perm, bxB xs, .perm, .uniq, .uniq, .uniq, .uniq, .uniq] := by
  have cS := tcpSend_l c xs ((cnB_iff _).2 hI) he
  have p1 := pl_bytes c.out
  have p2 := pl_parts c.parts
  obtain ⟨y, hy⟩ : ∃ y, c.sends xs = y := ⟨_, rfl⟩
  rw [hy] at cS ⊢
  dsimp only [cnR, cnL, stA] at cS ⊢
  refine ACallL.of_ev mixed Tryz.func54 rfl (fun a w => Tryz.call54 a w) (congrArg Array.toList Tryz.results54) Tryz.ntmps54 fun B hB => ?_
  ((conv => whnf); (repeat' ((first | (with_reducible first | refine qif_n ?_ | refine qif_t ‹_› ?_ | refine qif_f ‹_› ?_) | ((with_reducible refine qif_t ?_ ?_); focus decide) | ((with_reducible refine qif_f ?_ ?_); focus decide) | (with_reducible refine And.intro (orderOk_i ?ho) ?_; (case ho => kernel_rfl)) | ((with_reducible refine qif_t ?_ ?_); focus (simp []; done)) | ((with_reducible refine qif_f ?_ ?_); focus (simp []; done)) | (with_reducible first | refine qif_i (fun _ => ?_) (fun _ => ?_) | refine frcVs_i ?_ | refine frcRs_i ?_) | (((with_reducible refine qCall.of (cS) [] [(0, 0), (0, 2)] [] [(1, 5), (2, 6), (3, 7), (4, 8), (5, 9)] [(5, .uniq), (6, .uniq), (7, .uniq), (8, .uniq), (9, .uniq)] (.tup [.agg (cnG 5 6 7 y.c), .glist 8 7 (y.out.map (sgG 9)), .val (.int .i64 0)]) ?hk ?_); (case hk => rfl); (conv => whnf); (repeat (refine And.intro ?_ ?_; exact sideT; (conv => whnf))); (fail_if_success (with_reducible first | refine And.intro (eqv_i ?_) ?_ | refine And.intro (ren_i ?_) ?_))))) <;> (conv => whnf))))
  (refine qConv.of hB [(1, 1)] [(0, 0), (2, 2), (5, 3), (6, 4), (7, 5), (8, 6), (9, 7)] [] (by rfl) ?_; focus ((conv => whnf); (repeat (refine And.intro ?_ ?_; rotate_left; (conv => whnf))); exact trivial; all_goals (try exact andT)))
  all_goals first | rfl | exact bytes_cells _ | exact parts_gg rfl _ | exact segs_gg rfl _ | (exact rowsT) | trace_state
theorem hostSend_no (h : Ho) (link : Int) (xs : List Int) (hc : ∀ c ∈ h.conns, CnLen c) (hl : h.conns.length ≤ 100000000) (hx : xs.length ≤ 100000000) (he : withErr h link (fun c => c.sendE xs) ≠ 0) :
    ACallL Tryz.prog 24 [.agg (hoR h), .val (.int .i64 link), bL 0 xs] [.perm] (hwNo (withErr h link (fun c => c.sendE xs))) [.perm] := by
  have cW := (with_anyB 54 xs (fun c => c.sendE xs) (fun c => c.sends xs) h link hc hl (fun c _ hI e => sendC_no c xs hI hx e) (fun c _ hI e => ⟨sendC_l c xs hI e, (send_I hI e).2⟩)).1 he
  have px := pl_cns h.conns
  have pz := pl_bytes xs
  obtain ⟨e, hee⟩ : ∃ e, withErr h link (fun c => c.sendE xs) = e := ⟨_, rfl⟩
  rw [hee] at cW ⊢
  dsimp only [hoR] at cW ⊢
  refine ACallL.of_ev mixed Tryz.func24 rfl (fun a w => Tryz.call24 a w) (congrArg Array.toList Tryz.results24) Tryz.ntmps24 fun B hB => ?_
  ((conv => whnf); (repeat' ((first | (with_reducible first | refine qif_n ?_ | refine qif_t ‹_› ?_ | refine qif_f ‹_› ?_) | ((with_reducible refine qif_t ?_ ?_); focus decide) | ((with_reducible refine qif_f ?_ ?_); focus decide) | (with_reducible refine And.intro (orderOk_i ?ho) ?_; (case ho => kernel_rfl)) | ((with_reducible refine qif_t ?_ ?_); focus (simp []; done)) | ((with_reducible refine qif_f ?_ ?_); focus (simp []; done)) | (with_reducible first | refine qif_i (fun _ => ?_) (fun _ => ?_) | refine frcVs_i ?_ | refine frcRs_i ?_) | (((with_reducible refine qCall.of (cW) [(1, 2)] [(0, 0), (2, 0)] [] [] [(2, .live ⟨1, 37, [[bL 0 xs]]⟩)] (hwNo e) ?hk ?_); (case hk => rfl); (conv => whnf); (repeat (refine And.intro ?_ ?_; exact sideT; (conv => whnf))); (fail_if_success (with_reducible first | refine And.intro (eqv_i ?_) ?_ | refine And.intro (ren_i ?_) ?_))))) <;> (conv => whnf))))
  (refine qConv.of hB [] [(0, 0)] [] (by rfl) ?_; focus ((conv => whnf); (repeat (refine And.intro ?_ ?_; rotate_left; (conv => whnf))); exact trivial; all_goals (try exact andT)))
theorem hostSend_l (h : Ho) (link : Int) (xs : List Int) (hc : ∀ c ∈ h.conns, CnLen c) (hl : h.conns.length ≤ 100000000) (hx : xs.length ≤ 100000000) (he : withErr h link (fun c => c.sendE xs) = 0) :
    ACallL Tryz.prog 24 [.agg (hoR h), .val (.int .i64 link), bL 0 xs] [.perm] (hwA (h.withS link (fun c => c.sends xs))) hwH := by
  have cW := (with_anyB 54 xs (fun c => c.sendE xs) (fun c => c.sends xs) h link hc hl (fun c _ hI e => sendC_no c xs hI hx e) (fun c _ hI e => ⟨sendC_l c xs hI e, (send_I hI e).2⟩)).2 he
  have px := pl_cns h.conns
  have pz := pl_bytes xs
  obtain ⟨y, hy⟩ : ∃ y, h.withS link (fun c => c.sends xs) = y := ⟨_, rfl⟩
  rw [hy] at cW ⊢
  dsimp only [hoR] at cW ⊢
  refine ACallL.of_ev mixed Tryz.func24 rfl (fun a w => Tryz.call24 a w) (congrArg Array.toList Tryz.results24) Tryz.ntmps24 fun B hB => ?_
  ((conv => whnf); (repeat' ((first | (with_reducible first | refine qif_n ?_ | refine qif_t ‹_› ?_ | refine qif_f ‹_› ?_) | ((with_reducible refine qif_t ?_ ?_); focus decide) | ((with_reducible refine qif_f ?_ ?_); focus decide) | (with_reducible refine And.intro (orderOk_i ?ho) ?_; (case ho => kernel_rfl)) | ((with_reducible refine qif_t ?_ ?_); focus (simp []; done)) | ((with_reducible refine qif_f ?_ ?_); focus (simp []; done)) | (with_reducible first | refine qif_i (fun _ => ?_) (fun _ => ?_) | refine frcVs_i ?_ | refine frcRs_i ?_) | (((with_reducible refine qCall.of (cW) [(1, 2)] [(0, 0), (2, 0)] [] [(3, 4), (4, 5), (5, 6), (6, 7), (7, 8), (8, 9)] [(2, .live ⟨1, 37, [[bL 0 xs]]⟩), (4, .uniq), (5, .uniq), (6, .uniq), (7, .uniq), (8, .uniq), (9, .uniq)] (.tup [.agg [.glist 4 16 (y.h.conns.map (cnG 5 6 7)), .val (.int .i64 y.h.count)], .glist 8 8 (y.out.map (snG 9)), .val (.int .i64 0)]) ?hk ?_); (case hk => rfl); (conv => whnf); (repeat (refine And.intro ?_ ?_; exact sideT; (conv => whnf))); (fail_if_success (with_reducible first | refine And.intro (eqv_i ?_) ?_ | refine And.intro (ren_i ?_) ?_))))) <;> (conv => whnf))))
  (refine qConv.of hB [] [(0, 0), (4, 1), (5, 2), (6, 3), (7, 4), (8, 5), (9, 6)] [] (by rfl) ?_; focus ((conv => whnf); (repeat (refine And.intro ?_ ?_; rotate_left; (conv => whnf))); exact trivial; all_goals (try exact andT)))
  all_goals first | rfl | exact cns_gg rfl rfl rfl _ | exact sns_gg rfl _ | (exact rowsT) | trace_state
theorem hostClose_of (eF : Cn → Int) (f : Cn → Stp) (h : Ho) (link : Int) (cW : (withErr h link eF ≠ 0 → ACallL Tryz.prog 53 [.agg (hoR h), .val (.int .i64 link), .clo 57 []] [.perm] (hwNo (withErr h link eF)) [.perm]) ∧ (withErr h link eF = 0 → ACallL Tryz.prog 53 [.agg (hoR h), .val (.int .i64 link), .clo 57 []] [.perm] (hwA (h.withS link f)) hwH)) :
    (withErr h link eF ≠ 0 → ACallL Tryz.prog 27 [.agg (hoR h), .val (.int .i64 link)] [.perm] (hwNo (withErr h link eF)) [.perm]) ∧ (withErr h link eF = 0 → ACallL Tryz.prog 27 [.agg (hoR h), .val (.int .i64 link)] [.perm] (hwA (h.withS link f)) hwH) := by
  have px := pl_cns h.conns
  obtain ⟨c1, c2⟩ := cW
  refine ⟨fun he => ?_, fun he => ?_⟩
  · have cW := c1 he
    obtain ⟨e, hee⟩ : ∃ e, withErr h link eF = e := ⟨_, rfl⟩
    rw [hee] at cW ⊢
    dsimp only [hoR] at cW ⊢
    refine ACallL.of_ev mixed Tryz.func27 rfl (fun a w => Tryz.call27 a w) (congrArg Array.toList Tryz.results27) Tryz.ntmps27 fun B hB => ?_
    ((conv => whnf); (repeat' ((first | (with_reducible first | refine qif_n ?_ | refine qif_t ‹_› ?_ | refine qif_f ‹_› ?_) | ((with_reducible refine qif_t ?_ ?_); focus decide) | ((with_reducible refine qif_f ?_ ?_); focus decide) | (with_reducible refine And.intro (orderOk_i ?ho) ?_; (case ho => kernel_rfl)) | ((with_reducible refine qif_t ?_ ?_); focus (simp []; done)) | ((with_reducible refine qif_f ?_ ?_); focus (simp []; done)) | (with_reducible first | refine qif_i (fun _ => ?_) (fun _ => ?_) | refine frcVs_i ?_ | refine frcRs_i ?_) | (((with_reducible refine qCall.reads (cW) [(0, 0)] [] ?hk ?_); (case hk => rfl); (conv => whnf); (repeat (refine And.intro ?_ ?_; exact sideT; (conv => whnf))); (fail_if_success (with_reducible first | refine And.intro (eqv_i ?_) ?_ | refine And.intro (ren_i ?_) ?_))))) <;> (conv => whnf))))
    (refine qConv.of hB [] [(0, 0)] [] (by rfl) ?_; focus ((conv => whnf); (repeat (refine And.intro ?_ ?_; rotate_left; (conv => whnf))); exact trivial; all_goals (try exact andT)))
  · have cW := c2 he
    obtain ⟨y, hy⟩ : ∃ y, h.withS link f = y := ⟨_, rfl⟩
    rw [hy] at cW ⊢
    dsimp only [hoR] at cW ⊢
    refine ACallL.of_ev mixed Tryz.func27 rfl (fun a w => Tryz.call27 a w) (congrArg Array.toList Tryz.results27) Tryz.ntmps27 fun B hB => ?_
    ((conv => whnf); (repeat' ((first | (with_reducible first | refine qif_n ?_ | refine qif_t ‹_› ?_ | refine qif_f ‹_› ?_) | ((with_reducible refine qif_t ?_ ?_); focus decide) | ((with_reducible refine qif_f ?_ ?_); focus decide) | (with_reducible refine And.intro (orderOk_i ?ho) ?_; (case ho => kernel_rfl)) | ((with_reducible refine qif_t ?_ ?_); focus (simp []; done)) | ((with_reducible refine qif_f ?_ ?_); focus (simp []; done)) | (with_reducible first | refine qif_i (fun _ => ?_) (fun _ => ?_) | refine frcVs_i ?_ | refine frcRs_i ?_) | (((with_reducible refine qCall.of (cW) [] [(0, 0)] [] [(1, 3), (2, 4), (3, 5), (4, 6), (5, 7), (6, 8)] [(3, .uniq), (4, .uniq), (5, .uniq), (6, .uniq), (7, .uniq), (8, .uniq)] (.tup [.agg [.glist 3 16 (y.h.conns.map (cnG 4 5 6)), .val (.int .i64 y.h.count)], .glist 7 8 (y.out.map (snG 8)), .val (.int .i64 0)]) ?hk ?_); (case hk => rfl); (conv => whnf); (repeat (refine And.intro ?_ ?_; exact sideT; (conv => whnf))); (fail_if_success (with_reducible first | refine And.intro (eqv_i ?_) ?_ | refine And.intro (ren_i ?_) ?_))))) <;> (conv => whnf))))
    (refine qConv.of hB [] [(0, 0), (3, 1), (4, 2), (5, 3), (6, 4), (7, 5), (8, 6)] [] (by rfl) ?_; focus ((conv => whnf); (repeat (refine And.intro ?_ ?_; rotate_left; (conv => whnf))); exact trivial; all_goals (try exact andT)))
    all_goals first | rfl | exact cns_gg rfl rfl rfl _ | exact sns_gg rfl _ | (exact rowsT) | trace_state
theorem hostAbort_of (eF : Cn → Int) (f : Cn → Stp) (h : Ho) (link : Int) (cW : (withErr h link eF ≠ 0 → ACallL Tryz.prog 53 [.agg (hoR h), .val (.int .i64 link), .clo 59 []] [.perm] (hwNo (withErr h link eF)) [.perm]) ∧ (withErr h link eF = 0 → ACallL Tryz.prog 53 [.agg (hoR h), .val (.int .i64 link), .clo 59 []] [.perm] (hwA (h.withS link f)) hwH)) :
    (withErr h link eF ≠ 0 → ACallL Tryz.prog 29 [.agg (hoR h), .val (.int .i64 link)] [.perm] (hwNo (withErr h link eF)) [.perm]) ∧ (withErr h link eF = 0 → ACallL Tryz.prog 29 [.agg (hoR h), .val (.int .i64 link)] [.perm] (hwA (h.withS link f)) hwH) := by
  have px := pl_cns h.conns
  obtain ⟨c1, c2⟩ := cW
  refine ⟨fun he => ?_, fun he => ?_⟩
  · have cW := c1 he
    obtain ⟨e, hee⟩ : ∃ e, withErr h link eF = e := ⟨_, rfl⟩
    rw [hee] at cW ⊢
    dsimp only [hoR] at cW ⊢
    refine ACallL.of_ev mixed Tryz.func29 rfl (fun a w => Tryz.call29 a w) (congrArg Array.toList Tryz.results29) Tryz.ntmps29 fun B hB => ?_
    ((conv => whnf); (repeat' ((first | (with_reducible first | refine qif_n ?_ | refine qif_t ‹_› ?_ | refine qif_f ‹_› ?_) | ((with_reducible refine qif_t ?_ ?_); focus decide) | ((with_reducible refine qif_f ?_ ?_); focus decide) | (with_reducible refine And.intro (orderOk_i ?ho) ?_; (case ho => kernel_rfl)) | ((with_reducible refine qif_t ?_ ?_); focus (simp []; done)) | ((with_reducible refine qif_f ?_ ?_); focus (simp []; done)) | (with_reducible first | refine qif_i (fun _ => ?_) (fun _ => ?_) | refine frcVs_i ?_ | refine frcRs_i ?_) | (((with_reducible refine qCall.reads (cW) [(0, 0)] [] ?hk ?_); (case hk => rfl); (conv => whnf); (repeat (refine And.intro ?_ ?_; exact sideT; (conv => whnf))); (fail_if_success (with_reducible first | refine And.intro (eqv_i ?_) ?_ | refine And.intro (ren_i ?_) ?_))))) <;> (conv => whnf))))
    (refine qConv.of hB [] [(0, 0)] [] (by rfl) ?_; focus ((conv => whnf); (repeat (refine And.intro ?_ ?_; rotate_left; (conv => whnf))); exact trivial; all_goals (try exact andT)))
  · have cW := c2 he
    obtain ⟨y, hy⟩ : ∃ y, h.withS link f = y := ⟨_, rfl⟩
    rw [hy] at cW ⊢
    dsimp only [hoR] at cW ⊢
    refine ACallL.of_ev mixed Tryz.func29 rfl (fun a w => Tryz.call29 a w) (congrArg Array.toList Tryz.results29) Tryz.ntmps29 fun B hB => ?_
    ((conv => whnf); (repeat' ((first | (with_reducible first | refine qif_n ?_ | refine qif_t ‹_› ?_ | refine qif_f ‹_› ?_) | ((with_reducible refine qif_t ?_ ?_); focus decide) | ((with_reducible refine qif_f ?_ ?_); focus decide) | (with_reducible refine And.intro (orderOk_i ?ho) ?_; (case ho => kernel_rfl)) | ((with_reducible refine qif_t ?_ ?_); focus (simp []; done)) | ((with_reducible refine qif_f ?_ ?_); focus (simp []; done)) | (with_reducible first | refine qif_i (fun _ => ?_) (fun _ => ?_) | refine frcVs_i ?_ | refine frcRs_i ?_) | (((with_reducible refine qCall.of (cW) [] [(0, 0)] [] [(1, 3), (2, 4), (3, 5), (4, 6), (5, 7), (6, 8)] [(3, .uniq), (4, .uniq), (5, .uniq), (6, .uniq), (7, .uniq), (8, .uniq)] (.tup [.agg [.glist 3 16 (y.h.conns.map (cnG 4 5 6)), .val (.int .i64 y.h.count)], .glist 7 8 (y.out.map (snG 8)), .val (.int .i64 0)]) ?hk ?_); (case hk => rfl); (conv => whnf); (repeat (refine And.intro ?_ ?_; exact sideT; (conv => whnf))); (fail_if_success (with_reducible first | refine And.intro (eqv_i ?_) ?_ | refine And.intro (ren_i ?_) ?_))))) <;> (conv => whnf))))
    (refine qConv.of hB [] [(0, 0), (3, 1), (4, 2), (5, 3), (6, 4), (7, 5), (8, 6)] [] (by rfl) ?_; focus ((conv => whnf); (repeat (refine And.intro ?_ ?_; rotate_left; (conv => whnf))); exact trivial; all_goals (try exact andT)))
    all_goals first | rfl | exact cns_gg rfl rfl rfl _ | exact sns_gg rfl _ | (exact rowsT) | trace_state
theorem hostClose_l (h : Ho) (link : Int) (hc : ∀ c ∈ h.conns, CnLen c) (hl : h.conns.length ≤ 100000000) :
    (withErr h link Cn.closeE ≠ 0 → ACallL Tryz.prog 27 [.agg (hoR h), .val (.int .i64 link)] [.perm] (hwNo (withErr h link Cn.closeE)) [.perm]) ∧ (withErr h link Cn.closeE = 0 → ACallL Tryz.prog 27 [.agg (hoR h), .val (.int .i64 link)] [.perm] (hwA (h.withS link Cn.closes)) hwH) :=
  hostClose_of _ _ h link (with_any _ _ _ h link hc hl (fun c _ hI e => by
    have := tcpClose_no c hI.cnLen (.inr e)
    rwa [errB, (cnB_iff _).2 hI, cond_true] at this) (fun c _ hI e => ⟨tcpClose_l c ((cnB_iff _).2 hI) e, (close_I hI e).2⟩))
theorem hostAbort_l (h : Ho) (link : Int) (hc : ∀ c ∈ h.conns, CnLen c) (hl : h.conns.length ≤ 100000000) :
    (withErr h link (fun _ => 0) ≠ 0 → ACallL Tryz.prog 29 [.agg (hoR h), .val (.int .i64 link)] [.perm] (hwNo (withErr h link (fun _ => 0))) [.perm]) ∧ (withErr h link (fun _ => 0) = 0 → ACallL Tryz.prog 29 [.agg (hoR h), .val (.int .i64 link)] [.perm] (hwA (h.withS link Cn.aborts)) hwH) :=
  hostAbort_of _ _ h link (with_any _ _ _ h link hc hl (fun c _ hI e => absurd rfl e) (fun c _ hI e => ⟨tcpAbort_l c ((cnB_iff _).2 hI), (abort_I hI).2⟩))
end Go.Proofs.YtceohcbokbalhaaGreat

/- A tick of a host: on data. Conditions: what may be. -/
namespace Go.Proofs.YtceohcbokbalhaaGreat
open Go.RowKit
set_option linter.unusedVariables false
set_option linter.unusedSimpArgs false
set_option maxRecDepth 100000
set_option maxHeartbeats 4000000
section
variable {L I F : Prs} {h : Hp}
end
end Go.Proofs.YtceohcbokbalhaaGreat

/- The page's host takes a segment that is of no connection: on data. Conditions: what may be. -/
-- sideX: first | exact hs0_r rfl rfl rfl (cns_gp rfl rfl rfl _) | exact hsRow_r rfl rfl rfl (cns_pp rfl rfl rfl _) (RowsRen.one (.cons (.val _) (.cons (.val _) (.cons (.val _) (.cons (.val _) (.cons (.val _) (.cons (.val _) (.cons (.val _) (.cons (.val _) .nil))))))))) RowsRen.nil
namespace Go.Proofs.YtceohcbokbalhaaGreat
open Go.RowKit
set_option linter.unusedVariables false
set_option linter.unusedSimpArgs false
set_option maxRecDepth 100000
set_option maxHeartbeats 8000000
end Go.Proofs.YtceohcbokbalhaaGreat

/- Memory that is let go of, whatever is written there. No condition. -/
namespace Go.Proofs.YtceohcbokbalhaaGreat
open Go.RowKit
set_option linter.unusedVariables false
set_option linter.unusedSimpArgs false
set_option maxRecDepth 100000
structure Sq (D : Nat → Prop) (w w' : World) : Prop where
  size : w.heap.size ≤ w'.heap.size
  os : w'.os = w.os
  tape : w'.tape = w.tape
  output : w'.output = w.output
  far : ∀ g, g < w.heap.size → ¬ D g → w'.heap[g]? = w.heap[g]?
theorem Sq.of {D P S : Nat → Prop} {w w' : World} (h : Sp D P w w') (hd : ∀ g, D g → S g) (hp : ∀ g, P g → S g) : Sq S w w' := ⟨h.size, h.os, h.tape, h.output, fun g hg hn => h.far g hg (fun h => hn (hd g h)) (fun h => hn (hp g h))⟩
theorem Sq.trans {D : Nat → Prop} {a b c : World} (h : Sq D a b) (k : Sq D b c) : Sq D a c :=
  ⟨Nat.le_trans h.size k.size, k.os.trans h.os, k.tape.trans h.tape, k.output.trans h.output, fun g hg h1 => (k.far g (Nat.lt_of_lt_of_le hg h.size) h1).trans (h.far g hg h1)⟩
theorem Sq.grown {D : Nat → Prop} {w w' : World} (hg : w.grownBy w' none) : Sq D w w' := ⟨hg.size, hg.os, hg.tape, hg.output, fun k hk _ => hg.block k hk (by simp)⟩
theorem Rel.spoilQ {m : Nm} {h : Hp} {w w' : World} (rel : Rel m h w) {D : Nat → Prop} (h' : Hp) (hU : ∀ id, h' id = h id ∨ (h id = .uniq ∧ h' id = .dead)) (hD : ∀ g, D g → ∃ r, h r = .uniq ∧ h' r = .dead ∧ m.set r g) (S : Sq D w w') : Rel m h' w' ∧ Ev m h w m h' w' := by
  have live : ∀ id k, h' id = .live k → h id = .live k := fun id k hk => by
    rcases hU id with e | ⟨_, e⟩
    · rw [← e]; exact hk
    · rw [hk] at e; cases e
  have imm : ∀ r, (h' r).imm → h' r = h r := fun r hr => by
    rcases hU r with e | ⟨_, e⟩
    · exact e
    · rw [e] at hr; exact hr.elim
  have farL : ∀ id k, h id = .live k → w'.heap[(m.pl id).1]? = w.heap[(m.pl id).1]? := fun id k hk => by
    have hlt : (m.pl id).1 < w.heap.size := by
      obtain ⟨c, hc, _⟩ := rel.own id k hk
      exact (Array.getElem?_eq_some_iff.1 hc).1
    have no : ¬ (D (m.pl id).1) := fun hh => by
      obtain ⟨r, h1, _, h3⟩ := hD _ hh
      exact rel.sepR id k r hk (by rw [h1]; trivial) h3
    exact S.far _ hlt no
  have ev : Ev m h w m h' w' := by
    refine ⟨fun _ _ => rfl, fun _ _ => rfl, fun id => ?_, S.size, fun id k k' h1 h2 cur e f hc => ⟨cur, e, f, by rw [← farL id k h1]; exact hc, rfl⟩, fun g hg ho hu => ?_, fun id k h1 h2 => ?_, fun id g h1 h2 => ?_, S.os, S.tape, S.output⟩
    · rcases hU id with e | ⟨e1, e⟩
      · rw [e]; exact Own.goes_refl _
      · rw [e, e1]; trivial
    · have no : ¬ (D g) := fun hh => by
        obtain ⟨r, h1, h2, h3⟩ := hD _ hh
        have := hu r h1 h3
        rw [h2] at this; cases this
      exact S.far _ hg no
    · have := live id k h2; rw [h1] at this; cases this
    · have := imm id (by rw [h2]; trivial)
      rw [h2, h1] at this; cases this
  refine ⟨⟨fun id k hk => ?_, fun id id' k k' h1 h2 e => rel.sep id id' k k' (live _ _ h1) (live _ _ h2) e, fun id k r h1 h2 => ?_, fun r r' g h1 h2 hne hs => ?_, fun r g h1 hs => ?_, fun r g h1 hs => ?_⟩, ev⟩
  · have h0 := live id k hk
    obtain ⟨cur, h1, h2, h3, h4⟩ := rel.own id k h0
    exact ⟨cur, by rw [farL id k h0]; exact h1, h2, h3, fun i j row c a b => let ⟨v, x, y⟩ := h4 i j row c a b; ⟨v, x, y.mono rel ev⟩⟩
  · have e := imm r h2
    exact rel.sepR id k r (live _ _ h1) (by rw [← e]; exact h2)
  · have e1 := imm r (by rw [h1]; trivial)
    have e2 := imm r' h2
    exact rel.sepU r r' g (by rw [← e1]; exact h1) (by rw [← e2]; exact h2) hne hs
  · have e1 := imm r h1
    exact Nat.lt_of_lt_of_le (rel.bound r g (by rw [← e1]; exact h1) hs) S.size
  · have e1 := imm r (by rw [h1]; trivial)
    have hr : h r = .uniq := by rw [← e1]; exact h1
    have no : ¬ (D g) := fun hh => by
      obtain ⟨r2, h3, h4, h5⟩ := hD _ hh
      have hne : r2 ≠ r := by rintro rfl; rw [h1] at h4; cases h4
      exact rel.sepU r2 r g h3 (by rw [hr]; trivial) hne h5 hs
    rw [S.far _ (rel.bound r g (by rw [hr]; trivial) hs) no]
    exact rel.free r g hr hs
end Go.Proofs.YtceohcbokbalhaaGreat

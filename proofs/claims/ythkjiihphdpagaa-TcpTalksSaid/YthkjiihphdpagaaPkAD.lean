/- Contracts and plain laws, one behind the other: AhPut, AhWin, TcpM, AhTmr, AhCn, SpoilS, AhiDot. Conditions are said at each. -/
import Derived.Test.YthkjiihphdpagaaAhRunsX
import Derived.Test.YthkjiihphdpagaaPkAA
import Derived.Test.YthkjiihphdpagaaTy
import Derived.Test.YthkjiihphdpagaaPkAB
import Derived.Test.YthkjiihphdpagaaAhiC
/- Bytes come to a buffer: on data. No condition but lengths. -/
namespace Go.Proofs.Ythkjiihphdpagaa
open Go.RowKit
set_option linter.unusedVariables false
set_option linter.unusedSimpArgs false
set_option maxRecDepth 100000
set_option maxHeartbeats 4000000
theorem slG' {P : Program} {o : Oper} {sl : List AV} {h : List Own} {t e : TypeId} {x : Operand} {rd : List (Nat × Own)} {r sz : Nat} {rows rows' : List (List AV)} {lo hi mx : Option Operand} {l hh mm : Option Int} (ho : o.op = .slice t x lo hi mx) (hx : ae sl x = .glist r sz rows) (hlo : abnd sl lo = some l) (hhi : abnd sl hi = some hh) (hmx : abnd sl mx = some mm) (he : elemT P t = some e) (hs : sizeT P e = some sz) (hl : alive (ofL h) (.glist r sz rows) = some rd)
    (hc : 0 ≤ l.getD 0 ∧ l.getD 0 ≤ hh.getD rows.length ∧ hh.getD rows.length ≤ mm.getD rows.length ∧ mm.getD rows.length ≤ rows.length ∧ (mm = none ∨ hh ≠ none)) (hr : (rows.drop (l.getD 0).toNat).take (hh.getD rows.length - l.getD 0).toNat = rows') : aop P o sl h = some ⟨.list r sz rows', rd, []⟩ := hr ▸ slG ho hx hlo hhi hmx he hs hl hc
theorem clip_l (rows : List (List AV)) (hr : RowsRen (qOf [] [(0, 0), (1, 1), (2, 2), (3, 3)] []) (ofL [.perm, .perm, .perm, .perm]) rows rows) : ACallL Try.prog 84 [.list 1 2 rows] [.perm, .perm, .perm, .perm] (.list 1 2 rows) [.perm, .perm, .perm, .perm] := by
  have hc : 0 ≤ (none : Option Int).getD 0 ∧ (none : Option Int).getD 0 ≤ (some (rows.length : Int)).getD (rows.length : Int) ∧ (some (rows.length : Int)).getD (rows.length : Int) ≤ (some (rows.length : Int)).getD (rows.length : Int) ∧ (some (rows.length : Int)).getD (rows.length : Int) ≤ (rows.length : Int) ∧ ((some (rows.length : Int)) = none ∨ (some (rows.length : Int)) ≠ none) := by
    rw [Option.getD_some, Option.getD_none]; exact ⟨by omega, by omega, by omega, by omega, .inr (by simp)⟩
  refine ACallL.of_ev mixed Try.func84 rfl (fun a w => Try.call84 a w) (congrArg Array.toList Try.results84) Try.ntmps84 fun B hB => ?_
  ((conv => whnf); (repeat' ((first | (with_reducible first | refine qif_n ?_ | refine qif_t ‹_› ?_ | refine qif_f ‹_› ?_) | ((with_reducible refine qif_t ?_ ?_); focus decide) | ((with_reducible refine qif_f ?_ ?_); focus decide) | (with_reducible refine And.intro (orderOk_i ?ho) ?_; (case ho => kernel_rfl)) | (with_reducible first | refine qif_i (fun _ => ?_) (fun _ => ?_) | refine frcVs_i ?_ | refine frcRs_i ?_) | (refine qCase_i (slL rfl rfl rfl rfl rfl rfl rfl rfl hc) ?_)) <;> (conv => whnf))))
  all_goals (refine qConv.of hB [] [(0, 0), (1, 1), (2, 2), (3, 3)] [] (by rfl) ?_; focus ((conv => whnf); (repeat (refine And.intro ?_ ?_; rotate_left; (conv => whnf))); exact trivial; all_goals (try exact andT)))
  all_goals first | rfl | (refine RowsRen.cast ?_ hr; simp)
def putR (n : Int) (ps l : List Pt) : Int × List Pt × List Int :=
  match l with
  | [] => (n, ps, [])
  | p :: t => if p.1 = n then (if 8 < t.length then (n, ps, []) else (wadd n p.2.length, t, p.2)) else (if 8 < t.length + 1 then (n, ps, []) else (n, p :: t, []))
abbrev putAV (r r' t : Nat) (x : Int × List Pt × List Int) : AV := .tup [.agg [.val (.int .i64 x.1), .list r 2 (x.2.1.map (prg r'))], gL t x.2.2]
theorem put_no (n s : Int) (ps : List Pt) (xs : List Int) (hn : 0 ≤ n ∧ n ≤ 4294967295) (hs : 0 ≤ s ∧ s ≤ 4294967295) (hx : xs.length ≤ 65536) (h : ¬ max (wdiff s n) 0 < min (wdiff s n + xs.length) 2048) :
    ACallL Try.prog 75 [.agg [.val (.int .i64 n), .list 1 2 (ps.map (prg 2))], .val (.int .i64 s), bL 0 xs] [.perm, .uniq, .uniq] (putAV 3 4 5 (n, ps, [])) [.perm, .dead, .dead, .uniq, .uniq, .uniq] := by
  refine ACallL.of_ev mixed Try.func75 rfl (fun a w => Try.call75 a w) (congrArg Array.toList Try.results75) Try.ntmps75 fun B hB => ?_
  ((conv => whnf); (repeat' ((first | (with_reducible first | refine qif_n ?_ | refine qif_t ‹_› ?_ | refine qif_f ‹_› ?_) | ((with_reducible refine qif_t ?_ ?_); focus decide) | ((with_reducible refine qif_f ?_ ?_); focus decide) | (with_reducible refine And.intro (orderOk_i ?ho) ?_; (case ho => kernel_rfl)) | (with_reducible first | refine qif_i (fun _ => ?_) (fun _ => ?_) | refine frcVs_i ?_ | refine frcRs_i ?_)) <;> (conv => whnf))))
  ((with_reducible refine qCall.of (within_no n s xs ps hn hs hx h) [] [(0, 0), (1, 1), (1, 2)] [] [] [] (.tup [.val (.int .i64 0), .list 0 1 []]) ?hk ?_); (case hk => rfl); (conv => whnf); (repeat (refine And.intro ?_ ?_; exact sideT; (conv => whnf))); (fail_if_success (with_reducible first | refine And.intro (eqv_i ?_) ?_ | refine And.intro (ren_i ?_) ?_)))
  ((conv => whnf); (repeat' ((first | (with_reducible first | refine qif_n ?_ | refine qif_t ‹_› ?_ | refine qif_f ‹_› ?_) | ((with_reducible refine qif_t ?_ ?_); focus decide) | ((with_reducible refine qif_f ?_ ?_); focus decide) | (with_reducible refine And.intro (orderOk_i ?ho) ?_; (case ho => kernel_rfl)) | (with_reducible first | refine qif_i (fun _ => ?_) (fun _ => ?_) | refine frcVs_i ?_ | refine frcRs_i ?_)) <;> (conv => whnf))))
  all_goals (refine qConv.of hB [] [(0, 0), (1, 3), (2, 4)] [] (by rfl) ?_; focus ((conv => whnf); (repeat (refine And.intro ?_ ?_; rotate_left; (conv => whnf))); exact trivial; all_goals (try exact andT)))
  all_goals first | rfl | (exact rowsT)
theorem put_some (n s : Int) (ps : List Pt) (xs : List Int) (hn : 0 ≤ n ∧ n ≤ 4294967295) (hs : 0 ≤ s ∧ s ≤ 4294967295) (hx : xs.length ≤ 65536) (hp : PtsOk ps) (hin : PtsIn n ps) (h : max (wdiff s n) 0 < min (wdiff s n + xs.length) 2048) (at_ fr le : Nat) (ha : (at_ : Int) = max (wdiff s n) 0) (hf : (fr : Int) = max (wdiff s n) 0 - wdiff s n) (hle : (le : Int) = min (wdiff s n + xs.length) 2048 - max (wdiff s n) 0)
    (ys : List Int) (hys : ys = (xs.drop fr).take le) (p : Pt) (t : List Pt) (hl : runsT n (layW (layP n win0 ps) at_ ys) 0 2048 = p :: t) :
    ACallL Try.prog 75 [.agg [.val (.int .i64 n), .list 1 2 (ps.map (prg 2))], .val (.int .i64 s), bL 0 xs] [.perm, .uniq, .uniq] (putAV 3 4 5 (putR n ps (p :: t))) [.perm, .dead, .dead, .uniq, .uniq, .uniq] := by
  have hyl : ys.length = le := by rw [hys]; simp; omega
  have hw := within_some n s xs ps hn hs hx h at_ fr le ha hf hle
  rw [← hys] at hw
  have hfi := fill_l n ps at_ ys hp hin (by omega)
  obtain ⟨W, hW⟩ : ∃ W, layW (layP n win0 ps) at_ ys = W := ⟨_, rfl⟩
  have lW : W.length = 2048 := by rw [← hW, layW_len, layP_len, win0_len]
  rw [hW] at hfi hl
  have hpa := parts_l n W lW
  have htl := runsT_len n W 0 2048
  rw [hl] at hpa htl
  have lh : List.take 2048 (List.drop 0 (W.map hasR)) = W.map hasR := by simp; exact List.take_of_length_le (by simp [lW])
  have la : List.take 2048 (List.drop 0 (W.map allR)) = W.map allR := by simp; exact List.take_of_length_le (by simp [lW])
  have lys : (ys.map bR).length = le := by simp [hyl]
  have hle0 : ¬ le = 0 := by omega
  have hle1 : ¬ (le : Int) = 0 := by omega
  obtain ⟨j, d⟩ := p
  refine ACallL.of_ev mixed Try.func75 rfl (fun a w => Try.call75 a w) (congrArg Array.toList Try.results75) Try.ntmps75 fun B hB => ?_
  ((conv => whnf); (repeat' ((first | (with_reducible first | refine qif_n ?_ | refine qif_t ‹_› ?_ | refine qif_f ‹_› ?_) | ((with_reducible refine qif_t ?_ ?_); focus decide) | ((with_reducible refine qif_f ?_ ?_); focus decide) | (with_reducible refine And.intro (orderOk_i ?ho) ?_; (case ho => kernel_rfl)) | (with_reducible first | refine qif_i (fun _ => ?_) (fun _ => ?_) | refine frcVs_i ?_ | refine frcRs_i ?_)) <;> (conv => whnf))))
  ((with_reducible refine qCall.of (hw) [] [(0, 0), (1, 1), (1, 2)] [] [] [] (.tup [.val (.int .i64 at_), bL 0 ys]) ?hk ?_); (case hk => rfl); (conv => whnf); (repeat (refine And.intro ?_ ?_; exact sideT; (conv => whnf))); (fail_if_success (with_reducible first | refine And.intro (eqv_i ?_) ?_ | refine And.intro (ren_i ?_) ?_)))
  ((conv => whnf); (repeat' ((first | (with_reducible first | refine qif_n ?_ | refine qif_t ‹_› ?_ | refine qif_f ‹_› ?_) | ((with_reducible refine qif_t ?_ ?_); focus decide) | ((with_reducible refine qif_f ?_ ?_); focus decide) | (with_reducible refine And.intro (orderOk_i ?ho) ?_; (case ho => kernel_rfl)) | ((with_reducible refine qif_t ?_ ?_); focus (simp [lys, hyl, hle0]; done)) | ((with_reducible refine qif_f ?_ ?_); focus (simp [lys, hyl, hle0]; done)) | (with_reducible first | refine qif_i (fun _ => ?_) (fun _ => ?_) | refine frcVs_i ?_ | refine frcRs_i ?_)) <;> (conv => whnf))))
  ((with_reducible refine qCall.of (hfi) [] [(0, 0), (0, 1), (0, 2)] [] [(1, 5), (2, 6)] [(5, .live ⟨1, 4, W.map hasR⟩), (6, .live ⟨1, 5, W.map allR⟩)] (.tup [.sl 5 0 2048, .sl 6 0 2048]) ?hk ?_); (case hk => rfl); (conv => whnf); (repeat (refine And.intro ?_ ?_; exact sideT; (conv => whnf))); (fail_if_success (with_reducible first | refine And.intro (eqv_i ?_) ?_ | refine And.intro (ren_i ?_) ?_)))
  ((conv => whnf); (repeat' ((first | (with_reducible first | refine qif_n ?_ | refine qif_t ‹_› ?_ | refine qif_f ‹_› ?_) | ((with_reducible refine qif_t ?_ ?_); focus decide) | ((with_reducible refine qif_f ?_ ?_); focus decide) | (with_reducible refine And.intro (orderOk_i ?ho) ?_; (case ho => kernel_rfl)) | (with_reducible first | refine qif_i (fun _ => ?_) (fun _ => ?_) | refine frcVs_i ?_ | refine frcRs_i ?_)) <;> (conv => whnf))))
  ((with_reducible refine qCall.of (hpa) [] [(0, 0)] [(0, 5), (0, 6)] [(1, 7), (2, 8), (3, 9)] [(7, .uniq), (8, .uniq), (9, .uniq)] (.glist 7 2 (rowsF 8 9 ((j, d) :: t))) ?hk ?_); (case hk => rfl); (conv => whnf); (repeat (refine And.intro ?_ ?_; exact sideT; (conv => whnf))); (fail_if_success (with_reducible first | refine And.intro (eqv_i ?_) ?_ | refine And.intro (ren_i ?_) ?_)))
  by_cases hjn : j = n
  · subst hjn
    have lt : (List.map (prg 9) t).length = t.length := by simp
    have hcb : 0 ≤ (some (1 : Int)).getD 0 ∧ (some (1 : Int)).getD 0 ≤ (none : Option Int).getD ((prg 8 (j, d) :: List.map (prg 9) t).length : Int) ∧ (none : Option Int).getD ((prg 8 (j, d) :: List.map (prg 9) t).length : Int) ≤ (none : Option Int).getD ((prg 8 (j, d) :: List.map (prg 9) t).length : Int) ∧ (none : Option Int).getD ((prg 8 (j, d) :: List.map (prg 9) t).length : Int) ≤ ((prg 8 (j, d) :: List.map (prg 9) t).length : Int) ∧ ((none : Option Int) = none ∨ (none : Option Int) ≠ none) := by
      rw [Option.getD_some, Option.getD_none]; exact ⟨by omega, by simp; omega, by omega, by omega, .inl rfl⟩
    have hrr : ((rowsF 8 9 ((j, d) :: t)).drop ((some (1 : Int)).getD 0).toNat).take ((none : Option Int).getD ((rowsF 8 9 ((j, d) :: t)).length : Int) - (some (1 : Int)).getD 0).toNat = t.map (prg 9) := by
      show ((prg 8 (j, d) :: t.map (prg 9)).drop 1).take _ = _
      rw [List.drop_one, List.tail_cons]
      exact List.take_of_length_le (by rw [Option.getD_none, rowsF_len]; simp)
    by_cases h8 : (8 : Int) < t.length
    · have h8n : 8 < t.length := by omega
      ((conv => whnf); (repeat' ((first | (with_reducible first | refine qif_n ?_ | refine qif_t ‹_› ?_ | refine qif_f ‹_› ?_) | ((with_reducible refine qif_t ?_ ?_); focus decide) | ((with_reducible refine qif_f ?_ ?_); focus decide) | (with_reducible refine And.intro (orderOk_i ?ho) ?_; (case ho => kernel_rfl)) | ((with_reducible refine qif_t ?_ ?_); focus (simp [h8]; done)) | ((with_reducible refine qif_f ?_ ?_); focus (simp [h8]; done)) | (with_reducible first | refine qif_i (fun _ => ?_) (fun _ => ?_) | refine frcVs_i ?_ | refine frcRs_i ?_) | ((with_reducible refine qCall.pure (spanAdd_l _ _) ?_ ?_ ?_ ?_); rotate_left 4; exact trivial; exact plT; exact plT) | (refine qCase_i (slG' rfl rfl rfl rfl rfl rfl rfl rfl hcb hrr) ?_)) <;> (conv => whnf))))
      rw [putR, if_pos rfl, if_pos h8n]
      (refine qConv.of hB [] [(0, 0), (1, 3), (2, 4)] [] (by rfl) ?_; focus ((conv => whnf); (repeat (refine And.intro ?_ ?_; rotate_left; (conv => whnf))); exact trivial; all_goals (try exact andT)))
      all_goals first | rfl | (exact rowsT)
    · have h8n : ¬ 8 < t.length := by omega
      ((conv => whnf); (repeat' ((first | (with_reducible first | refine qif_n ?_ | refine qif_t ‹_› ?_ | refine qif_f ‹_› ?_) | ((with_reducible refine qif_t ?_ ?_); focus decide) | ((with_reducible refine qif_f ?_ ?_); focus decide) | (with_reducible refine And.intro (orderOk_i ?ho) ?_; (case ho => kernel_rfl)) | ((with_reducible refine qif_t ?_ ?_); focus (simp [h8]; done)) | ((with_reducible refine qif_f ?_ ?_); focus (simp [h8]; done)) | (with_reducible first | refine qif_i (fun _ => ?_) (fun _ => ?_) | refine frcVs_i ?_ | refine frcRs_i ?_) | ((with_reducible refine qCall.pure (spanAdd_l _ _) ?_ ?_ ?_ ?_); rotate_left 4; exact trivial; exact plT; exact plT) | (refine qCase_i (slG' rfl rfl rfl rfl rfl rfl rfl rfl hcb hrr) ?_)) <;> (conv => whnf))))
      ((with_reducible refine qCall.of (clip_l (t.map (prg 2)) (parts_gg (by decide) t)) [] [(0, 0), (1, 7), (2, 9)] [] [] [] (.list 7 2 (t.map (prg 9))) ?hk ?_); (case hk => rfl); (conv => whnf); (repeat (refine And.intro ?_ ?_; exact sideT; (conv => whnf))); (fail_if_success (with_reducible first | refine And.intro (eqv_i ?_) ?_ | refine And.intro (ren_i ?_) ?_)))
      ((conv => whnf); (repeat' ((first | (with_reducible first | refine qif_n ?_ | refine qif_t ‹_› ?_ | refine qif_f ‹_› ?_) | ((with_reducible refine qif_t ?_ ?_); focus decide) | ((with_reducible refine qif_f ?_ ?_); focus decide) | (with_reducible refine And.intro (orderOk_i ?ho) ?_; (case ho => kernel_rfl)) | (with_reducible first | refine qif_i (fun _ => ?_) (fun _ => ?_) | refine frcVs_i ?_ | refine frcRs_i ?_)) <;> (conv => whnf))))
      rw [putR, if_pos rfl, if_neg h8n]
      (refine qConv.of hB [] [(0, 0), (7, 3), (9, 4), (8, 5)] [] (by rfl) ?_; focus ((conv => whnf); (repeat (refine And.intro ?_ ?_; rotate_left; (conv => whnf))); exact trivial; all_goals (try exact andT)))
      all_goals first | rfl | (exact rowsT) | (simp; done)
  · have hrf : (rowsF 8 9 ((j, d) :: t)).length = t.length + 1 := by rw [rowsF_len]; rfl
    by_cases h8 : (8 : Int) < t.length + 1
    · have h8n : 8 < t.length + 1 := by omega
      ((conv => whnf); (repeat' ((first | (with_reducible first | refine qif_n ?_ | refine qif_t ‹_› ?_ | refine qif_f ‹_› ?_) | ((with_reducible refine qif_t ?_ ?_); focus decide) | ((with_reducible refine qif_f ?_ ?_); focus decide) | (with_reducible refine And.intro (orderOk_i ?ho) ?_; (case ho => kernel_rfl)) | ((with_reducible refine qif_t ?_ ?_); focus (simp [hjn, hrf, h8]; done)) | ((with_reducible refine qif_f ?_ ?_); focus (simp [hjn, hrf, h8]; done)) | (with_reducible first | refine qif_i (fun _ => ?_) (fun _ => ?_) | refine frcVs_i ?_ | refine frcRs_i ?_)) <;> (conv => whnf))))
      rw [putR, if_neg hjn, if_pos h8n]
      (refine qConv.of hB [] [(0, 0), (1, 3), (2, 4)] [] (by rfl) ?_; focus ((conv => whnf); (repeat (refine And.intro ?_ ?_; rotate_left; (conv => whnf))); exact trivial; all_goals (try exact andT)))
      all_goals first | rfl | (exact rowsT)
    · have h8n : ¬ 8 < t.length + 1 := by omega
      ((conv => whnf); (repeat' ((first | (with_reducible first | refine qif_n ?_ | refine qif_t ‹_› ?_ | refine qif_f ‹_› ?_) | ((with_reducible refine qif_t ?_ ?_); focus decide) | ((with_reducible refine qif_f ?_ ?_); focus decide) | (with_reducible refine And.intro (orderOk_i ?ho) ?_; (case ho => kernel_rfl)) | ((with_reducible refine qif_t ?_ ?_); focus (simp [hjn, hrf, h8]; done)) | ((with_reducible refine qif_f ?_ ?_); focus (simp [hjn, hrf, h8]; done)) | (with_reducible first | refine qif_i (fun _ => ?_) (fun _ => ?_) | refine frcVs_i ?_ | refine frcRs_i ?_)) <;> (conv => whnf))))
      ((with_reducible refine qCall.of (clip_l (rowsF 2 3 ((j, d) :: t)) (rowsF_ren (by decide) (by decide) _)) [] [(0, 0), (1, 7), (2, 8), (3, 9)] [] [] [] (.list 7 2 (rowsF 8 9 ((j, d) :: t))) ?hk ?_); (case hk => rfl); (conv => whnf); (repeat (refine And.intro ?_ ?_; exact sideT; (conv => whnf))); (fail_if_success (with_reducible first | refine And.intro (eqv_i ?_) ?_ | refine And.intro (ren_i ?_) ?_)))
      ((conv => whnf); (repeat' ((first | (with_reducible first | refine qif_n ?_ | refine qif_t ‹_› ?_ | refine qif_f ‹_› ?_) | ((with_reducible refine qif_t ?_ ?_); focus decide) | ((with_reducible refine qif_f ?_ ?_); focus decide) | (with_reducible refine And.intro (orderOk_i ?ho) ?_; (case ho => kernel_rfl)) | (with_reducible first | refine qif_i (fun _ => ?_) (fun _ => ?_) | refine frcVs_i ?_ | refine frcRs_i ?_)) <;> (conv => whnf))))
      rw [putR, if_neg hjn, if_neg h8n]
      (refine qConv.of hB [] [(0, 0), (7, 3), (8, 4), (9, 4)] [] (by rfl) ?_; focus ((conv => whnf); (repeat (refine And.intro ?_ ?_; rotate_left; (conv => whnf))); exact trivial; all_goals (try exact andT)))
      all_goals first | rfl | (exact rowsT) | (exact RowsRen.cons (.cons (.val _) (.cons (Ren.gg rfl d) .nil)) (parts_gg rfl t))
theorem lay1_keep {w : Win} {i j : Nat} {c : Int} (h : isS w j = true) : isS (lay1 w i c) j = true := by
  unfold lay1
  split
  · rename_i e
    by_cases hij : i = j
    · subst hij
      simp only [isS, List.getD, e] at h
      cases h
    · simp only [isS, List.getD] at h ⊢
      rw [List.getElem?_set_ne hij]; exact h
  · exact h
theorem layW_keep : ∀ (cs : List Int) {w : Win} {i j : Nat}, isS w j = true → isS (layW w i cs) j = true
  | [], w, i, j, h => h
  | c :: cs, w, i, j, h => layW_keep cs (lay1_keep h)
theorem lay1_at {w : Win} {i : Nat} {c : Int} (h : i < w.length) : isS (lay1 w i c) i = true := by
  unfold lay1
  split
  · simp [isS, List.getD, h]
  · rename_i e
    obtain ⟨o, ho⟩ : ∃ o, w[i]? = some o := ⟨_, List.getElem?_eq_getElem h⟩
    cases o with
    | none => exact absurd ho e
    | some c => simp [isS, List.getD, ho]
theorem layW_at {w : Win} {i : Nat} {c : Int} {cs : List Int} (h : i < w.length) : isS (layW w i (c :: cs)) i = true := layW_keep cs (lay1_at h)
theorem runsT_ne2 {nx : Int} {w : Win} {t i : Nat} (ht : t ≤ i) (hs : isS w i = true) : ∀ n, i < n → runsT nx w t n ≠ []
  | 0, h => by omega
  | n + 1, h => by
    by_cases e : i = n
    · subst e; exact runsT_ne ht hs
    · have ih := runsT_ne2 (nx := nx) ht hs n (by omega)
      cases hn : isS w n with
      | false => rw [runsT_no hn]; exact ih
      | true => exact runsT_ne (by omega) hn
def addS (n : Int) (ps : List Pt) (s : Int) (xs : List Int) : Int × List Pt × List Int :=
  if max (wdiff s n) 0 < min (wdiff s n + xs.length) 2048 then
    putR n ps (runsT n (layW (layP n win0 ps) (max (wdiff s n) 0).toNat ((xs.drop (max (wdiff s n) 0 - wdiff s n).toNat).take (min (wdiff s n + xs.length) 2048 - max (wdiff s n) 0).toNat)) 0 2048)
  else (n, ps, [])
theorem put_l (n s : Int) (ps : List Pt) (xs : List Int) (hn : 0 ≤ n ∧ n ≤ 4294967295) (hs : 0 ≤ s ∧ s ≤ 4294967295) (hx : xs.length ≤ 65536) (hp : PtsOk ps) (hin : PtsIn n ps) :
    ACallL Try.prog 75 [.agg [.val (.int .i64 n), .list 1 2 (ps.map (prg 2))], .val (.int .i64 s), bL 0 xs] [.perm, .uniq, .uniq] (putAV 3 4 5 (addS n ps s xs)) [.perm, .dead, .dead, .uniq, .uniq, .uniq] := by
  by_cases h : max (wdiff s n) 0 < min (wdiff s n + xs.length) 2048
  · rw [addS, if_pos h]
    obtain ⟨at_, ha⟩ : ∃ a : Nat, (max (wdiff s n) 0).toNat = a := ⟨_, rfl⟩
    obtain ⟨fr, hf⟩ : ∃ a : Nat, (max (wdiff s n) 0 - wdiff s n).toNat = a := ⟨_, rfl⟩
    obtain ⟨le, hle⟩ : ∃ a : Nat, (min (wdiff s n + xs.length) 2048 - max (wdiff s n) 0).toNat = a := ⟨_, rfl⟩
    obtain ⟨ys, hys⟩ : ∃ ys, (xs.drop fr).take le = ys := ⟨_, rfl⟩
    rw [ha, hf, hle, hys]
    obtain ⟨p, t, hl⟩ : ∃ p t, runsT n (layW (layP n win0 ps) at_ ys) 0 2048 = p :: t := by
      have hyl : ys.length = le := by rw [← hys]; simp; omega
      cases ys with
      | nil => simp at hyl; omega
      | cons y ys =>
        have := runsT_ne2 (nx := n) (Nat.zero_le at_) (layW_at (w := layP n win0 ps) (c := y) (cs := ys) (by rw [layP_len, win0_len]; omega)) 2048 (by omega)
        cases hr : runsT n (layW (layP n win0 ps) at_ (y :: ys)) 0 2048 with
        | nil => exact absurd hr this
        | cons p t => exact ⟨p, t, rfl⟩
    rw [hl]
    exact put_some n s ps xs hn hs hx hp hin h at_ fr le (by omega) (by omega) (by omega) ys hys.symm p t hl
  · rw [addS, if_neg h]
    exact put_no n s ps xs hn hs hx h
theorem mayGo_in (n : Int) : ∀ (ps : List Pt) (e : Int), 0 ≤ e → mayGo n e ps = true → PtsIn n ps
  | [], _, _, _ => fun p hp => by cases hp
  | p :: ps, e, he, h => by
    simp only [mayGo, mayStep, Bool.and_eq_true, decide_eq_true_eq] at h
    obtain ⟨⟨h1, h2, h3, h4, h5⟩, h6⟩ := h
    intro q hq
    rcases List.mem_cons.1 hq with rfl | hq
    · exact ⟨by omega, by omega⟩
    · exact mayGo_in n ps _ (by omega) h6 q hq
theorem mayB_in {n : Int} {ps : List Pt} (h : mayB n ps = true) : (0 ≤ n ∧ n ≤ 4294967295) ∧ ps.length ≤ 8 ∧ PtsIn n ps := by
  simp only [mayB, Bool.and_eq_true, decide_eq_true_eq] at h
  exact ⟨within_t h.1, h.2.1, mayGo_in n ps 0 (Int.le_refl _) h.2.2⟩
end Go.Proofs.Ythkjiihphdpagaa

/- The window of a buffer: plain law. No condition but bounds. -/
namespace Go.Proofs.Ythkjiihphdpagaa
open Go.RowKit
set_option linter.unusedVariables false
set_option linter.unusedSimpArgs false
abbrev at_ (w : Win) (i : Nat) : Option Int := w.getD i none
theorem at_isS (w : Win) (i : Nat) : isS w i = (at_ w i).isSome := rfl
theorem at_vals {w : Win} {i : Nat} (h : isS w i = true) : at_ w i = some ((vals w).getD i 0) := by
  simp only [isS, at_, List.getD, vals, List.getElem?_map] at h ⊢
  cases hw : w[i]? with
  | none => rw [hw] at h; cases h
  | some o =>
    cases o with
    | none => rw [hw] at h; cases h
    | some c => rfl
theorem at_lt {w : Win} {i : Nat} (h : isS w i = true) : i < w.length := by
  rcases Nat.lt_or_ge i w.length with h' | h'
  · exact h'
  · simp [isS, List.getD, List.getElem?_eq_none h'] at h
theorem lay1_get (w : Win) (a : Nat) (c : Int) (i : Nat) (hi : i < w.length) : at_ (lay1 w a c) i = (at_ w i).or (if i = a then some c else none) := by
  unfold lay1
  split
  · rename_i e
    by_cases h : i = a
    · subst h
      have hi' := (List.getElem?_eq_some_iff.1 e).1
      simp only [at_, List.getD, List.getElem?_set_self hi', e, if_true]; rfl
    · simp only [at_, List.getD, List.getElem?_set_ne (Ne.symm h), if_neg h, Option.or_none]
  · rename_i e
    by_cases h : i = a
    · subst h
      obtain ⟨o, ho⟩ : ∃ o, w[i]? = some o := ⟨_, List.getElem?_eq_getElem hi⟩
      cases o with
      | none => exact absurd ho e
      | some c' => simp [at_, List.getD, ho]
    · simp [if_neg h]
theorem layW_get : ∀ (cs : List Int) (w : Win) (a i : Nat), i < w.length → at_ (layW w a cs) i = (at_ w i).or (if a ≤ i then cs[i - a]? else none)
  | [], w, a, i, hi => by simp [layW]
  | c :: cs, w, a, i, hi => by
    rw [layW, layW_get cs _ _ _ (by rw [lay1_len]; exact hi), lay1_get w a c i hi, Option.or_assoc]
    congr 1
    by_cases h : i = a
    · subst h; simp
    · by_cases h2 : a ≤ i
      · obtain ⟨k, hk⟩ : ∃ k, i - a = k + 1 := ⟨i - a - 1, by omega⟩
        rw [if_neg h, if_pos (by omega), if_pos h2, hk, show i - (a + 1) = k by omega]
        simp
      · rw [if_neg h, if_neg (by omega), if_neg h2]; rfl
def getP (n : Int) : List Pt → Nat → Option Int
  | [], _ => none
  | p :: ps, i => (if (wdiff p.1 n).toNat ≤ i then p.2[i - (wdiff p.1 n).toNat]? else none).or (getP n ps i)
theorem layP_get (n : Int) : ∀ (ps : List Pt) (w : Win) (i : Nat), i < w.length → at_ (layP n w ps) i = (at_ w i).or (getP n ps i)
  | [], w, i, hi => by simp [layP, getP]
  | p :: ps, w, i, hi => by
    show at_ (layP n (layW w (wdiff p.1 n).toNat p.2) ps) i = _
    rw [layP_get n ps _ i (by rw [layW_len]; exact hi), layW_get _ _ _ _ hi, getP, Option.or_assoc]
theorem win0_at (i : Nat) : at_ win0 i = none := by
  unfold win0
  simp only [at_, List.getD, List.getElem?_replicate]
  split <;> rfl
theorem win_get (n : Int) (ps : List Pt) (i : Nat) (hi : i < 2048) : at_ (layP n win0 ps) i = getP n ps i := by
  rw [layP_get n ps win0 i (by rw [win0_len]; exact hi), win0_at]; rfl
theorem getP_none {n : Int} : ∀ (ps : List Pt) (e : Int) (i : Nat), 0 ≤ e → mayGo n e ps = true → (i : Int) ≤ e → getP n ps i = none
  | [], e, i, _, _, _ => rfl
  | p :: ps, e, i, he, h, hi => by
    simp only [mayGo, mayStep, Bool.and_eq_true, decide_eq_true_eq] at h
    obtain ⟨⟨h1, h2, h3, h4, h5⟩, h6⟩ := h
    rw [getP, if_neg (by omega), getP_none ps _ i (by omega) h6 (by omega)]
    rfl
theorem wadd_wdiff {s n : Int} (hs : 0 ≤ s ∧ s ≤ 4294967295) : wadd n (wdiff s n) = s := by
  unfold wadd wdiff
  omega
theorem isS_of {w : Win} {i : Nat} {o : Option Int} (h : at_ w i = o) : isS w i = o.isSome := by rw [at_isS, h]
theorem seg_eq {w : Win} {j : Nat} {xs : List Int} (h : ∀ k, k < xs.length → at_ w (j + k) = xs[k]?) : seg w j (j + xs.length) = xs := by
  refine List.ext_getElem? fun k => ?_
  unfold seg
  rw [List.getElem?_take]
  by_cases hk : k < xs.length
  · rw [if_pos (by omega), List.getElem?_drop]
    have h1 := h k hk
    rw [List.getElem?_eq_getElem hk] at h1 ⊢
    have h2 : isS w (j + k) = true := isS_of h1
    have h3 := at_vals h2
    rw [h1] at h3
    have h4 : j + k < (vals w).length := by rw [vals_len]; exact at_lt h2
    rw [List.getElem?_eq_getElem h4]
    simp only [List.getD, List.getElem?_eq_getElem h4, Option.getD_some] at h3
    exact h3.symm
  · rw [if_neg (by omega), List.getElem?_eq_none (by omega)]
theorem seg_get {w : Win} {j m k : Nat} (hk : j + k < m) (h : isS w (j + k) = true) : (seg w j m)[k]? = at_ w (j + k) := by
  unfold seg
  have h4 : j + k < (vals w).length := by rw [vals_len]; exact at_lt h
  rw [List.getElem?_take, if_pos (by omega), List.getElem?_drop, at_vals h]
  simp [List.getD, List.getElem?_eq_getElem h4]
theorem seg_len {w : Win} {j m : Nat} (h : m ≤ w.length) : (seg w j m).length = m - j := by
  unfold seg
  simp [vals_len]; omega
theorem runs_pieces (n : Int) (W : Win) (hW : W.length = 2048) (t : Nat) : ∀ (ps pre : List Pt) (e : Nat), mayGo n e ps = true → t ≤ e → e ≤ 2048 → (∀ i, e ≤ i → i < 2048 → at_ W i = getP n ps i) → runsT n W t e = pre → runsT n W t 2048 = pre ++ ps
  | [], pre, e, _, ht, he, hg, hr => by
    rw [runsT_skip 2048 he (fun i h1 h2 => by rw [isS_of (hg i h1 h2)]; rfl), hr, List.append_nil]
  | (s, xs) :: ps, pre, e, h, ht, he, hg, hr => by
    simp only [mayGo, mayStep, Bool.and_eq_true, decide_eq_true_eq] at h
    obtain ⟨⟨h1, h2, h3, h4, h5⟩, h6⟩ := h
    obtain ⟨d, hd⟩ : ∃ d : Nat, wdiff s n = d := ⟨(wdiff s n).toNat, by omega⟩
    rw [hd] at h3 h5 h6
    have hx : 0 < xs.length := by omega
    have gd : (wdiff s n).toNat = d := by omega
    have lo : ∀ i, e ≤ i → i < d → isS W i = false := fun i a b => by
      rw [isS_of (hg i a (by omega)), getP, gd, if_neg (by omega), getP_none ps _ i (by omega) h6 (by omega)]
      rfl
    have mid : ∀ k, k < xs.length → at_ W (d + k) = xs[k]? := fun k hk => by
      rw [hg (d + k) (by omega) (by omega), getP, gd, if_pos (by omega), show d + k - d = k by omega, List.getElem?_eq_getElem hk]
      rfl
    have r1 := runsT_skip (nx := n) (w := W) (t := t) (j := e) d (by omega) lo
    have r2 := runsT_run (nx := n) (w := W) (t := t) (j := d) (by omega) (.inr (lo (d - 1) (by omega) (by omega))) (d + xs.length) (by omega) (by omega) (fun i a b => by
      have hk : i - d < xs.length := by omega
      rw [show i = d + (i - d) by omega, isS_of (mid (i - d) hk), List.getElem?_eq_getElem hk]
      rfl)
    rw [r1, hr, seg_eq mid, ← hd, wadd_wdiff (within_t h1)] at r2
    rw [runs_pieces n W hW t ps _ (d + xs.length) (by simpa using h6) (by omega) (by omega) (fun i a b => by
      have hk : xs.length ≤ i - d := by omega
      rw [hg i (by omega) b, getP, gd, if_pos (by omega), List.getElem?_eq_none hk]
      rfl) r2]
    simp
def lead : Win → Nat
  | some _ :: w => lead w + 1
  | _ => 0
theorem lead_le : ∀ w : Win, lead w ≤ w.length
  | [] => Nat.le_refl _
  | some _ :: w => by have := lead_le w; simp only [lead, List.length_cons]; omega
  | none :: w => Nat.zero_le _
theorem lead_all : ∀ (w : Win) (i : Nat), i < lead w → isS w i = true
  | [], i, h => by simp [lead] at h
  | some c :: w, 0, h => rfl
  | some c :: w, i + 1, h => by
    have := lead_all w i (by simp only [lead] at h; omega)
    simpa [isS, List.getD] using this
  | none :: w, i, h => by simp [lead] at h
theorem lead_no : ∀ w : Win, isS w (lead w) = false
  | [] => rfl
  | some c :: w => by
    have := lead_no w
    simpa [isS, List.getD, lead] using this
  | none :: w => rfl
theorem lead_eq {w : Win} {t : Nat} (h1 : ∀ i, i < t → isS w i = true) (h2 : isS w t = false) : lead w = t := by
  rcases Nat.lt_trichotomy (lead w) t with h | h | h
  · have := h1 _ h; rw [lead_no] at this; cases this
  · exact h
  · have := lead_all w t h; rw [h2] at this; cases this
theorem isS_out {w : Win} {i : Nat} (h : w.length ≤ i) : isS w i = false := by simp [isS, List.getD, List.getElem?_eq_none h]
def winS (n : Int) (ps : List Pt) (s : Int) (xs : List Int) : Win :=
  layW (layP n win0 ps) (max (wdiff s n) 0).toNat ((xs.drop (max (wdiff s n) 0 - wdiff s n).toNat).take (min (wdiff s n + xs.length) 2048 - max (wdiff s n) 0).toNat)
theorem winS_len (n : Int) (ps : List Pt) (s : Int) (xs : List Int) : (winS n ps s xs).length = 2048 := by rw [winS, layW_len, layP_len, win0_len]
theorem winS_get (n : Int) (ps : List Pt) (s : Int) (xs : List Int) (i : Nat) (hi : i < 2048) :
    at_ (winS n ps s xs) i = (getP n ps i).or (if wdiff s n ≤ i ∧ (i : Int) - wdiff s n < xs.length then xs[((i : Int) - wdiff s n).toNat]? else none) := by
  rw [winS, layW_get _ _ _ _ (by rw [layP_len, win0_len]; exact hi), win_get n ps i hi]
  congr 1
  have hd := wdiff_bd s n
  by_cases h : wdiff s n ≤ i ∧ (i : Int) - wdiff s n < xs.length
  · rw [if_pos h, if_pos (by omega), List.getElem?_take, if_pos (by omega), List.getElem?_drop]
    congr 1
    omega
  · rw [if_neg h]
    split
    · rw [List.getElem?_eq_none]
      simp
      omega
    · rfl
def reaS (n : Int) (ps : List Pt) (s : Int) (xs : List Int) : Int × List Pt × List Int :=
  if 8 < (runsT n (winS n ps s xs) (lead (winS n ps s xs)) 2048).length then (n, ps, []) else
    (wadd n (lead (winS n ps s xs)), runsT n (winS n ps s xs) (lead (winS n ps s xs)) 2048, seg (winS n ps s xs) 0 (lead (winS n ps s xs)))
theorem runsT_first {nx : Int} {w : Win} {t : Nat} : ∀ {n : Nat} {p : Pt} {l : List Pt}, runsT nx w t n = p :: l → isS w t = false → ∃ j : Nat, t < j ∧ j < n ∧ p.1 = wadd nx j
  | 0, p, l, h, _ => by simp [runsT] at h
  | n + 1, p, l, h, h0 => by
    by_cases hn : n < t
    · rw [runsT_le nx w t _ (by omega)] at h; cases h
    · cases hs : isS w n with
      | false => rw [runsT_no hs] at h; obtain ⟨j, a, b, c⟩ := runsT_first h h0; exact ⟨j, a, by omega, c⟩
      | true =>
        have hnt : n ≠ t := by rintro rfl; rw [h0] at hs; cases hs
        cases hp : isS w (n - 1) with
        | false =>
          rw [runsT_y2 (by omega) hs (.inr hp)] at h
          cases hr : runsT nx w t n with
          | nil => rw [hr] at h; simp at h; exact ⟨n, by omega, by omega, by rw [← h.1]⟩
          | cons q l' => rw [hr] at h; simp at h; obtain ⟨j, a, b, c⟩ := runsT_first hr h0; exact ⟨j, a, by omega, by rw [← h.1]; exact c⟩
        | true =>
          rw [runsT_y1 (by omega) hs hp] at h
          cases hr : runsT nx w t n with
          | nil => rw [hr] at h; simp [addLast] at h
          | cons q l' =>
            rw [hr] at h
            obtain ⟨j, a, b, c⟩ := runsT_first hr h0
            cases l' with
            | nil => simp [addLast] at h; exact ⟨j, a, by omega, by rw [← h.1]; exact c⟩
            | cons r l'' => simp [addLast] at h; exact ⟨j, a, by omega, by rw [← h.1]; exact c⟩
theorem wadd0 {n : Int} (hn : 0 ≤ n ∧ n ≤ 4294967295) : wadd n 0 = n := by unfold wadd; omega
theorem wadd_ne {n : Int} (hn : 0 ≤ n ∧ n ≤ 4294967295) {j : Nat} (h0 : 0 < j) (h1 : j < 4294967296) : wadd n j ≠ n := by unfold wadd; omega
theorem mayB_go {n : Int} {ps : List Pt} (h : mayB n ps = true) : mayGo n 0 ps = true := by
  simp only [mayB, Bool.and_eq_true] at h; exact h.2.2
theorem addS_rea {n : Int} {ps : List Pt} (h : mayB n ps = true) (s : Int) (xs : List Int) : addS n ps s xs = reaS n ps s xs := by
  obtain ⟨hn, h8, hin⟩ := mayB_in h
  have hg := mayB_go h
  obtain ⟨W, hW⟩ : ∃ W, winS n ps s xs = W := ⟨_, rfl⟩
  have lW : W.length = 2048 := by rw [← hW, winS_len]
  by_cases hk : max (wdiff s n) 0 < min (wdiff s n + xs.length) 2048
  · rw [addS, if_pos hk, reaS]
    have e : layW (layP n win0 ps) (max (wdiff s n) 0).toNat ((xs.drop (max (wdiff s n) 0 - wdiff s n).toNat).take (min (wdiff s n + xs.length) 2048 - max (wdiff s n) 0).toNat) = W := hW
    rw [e, hW]
    have hl := lead_le W
    have sp := runsT_split (nx := n) (w := W) (t := lead W) (lead_no W) (lead_all W) hl 2048 (by omega)
    rw [sp]
    by_cases h0 : lead W = 0
    · rw [if_pos h0, List.nil_append, h0]
      have hno : isS W 0 = false := by have := lead_no W; rw [h0] at this; exact this
      cases hr : runsT n W 0 2048 with
      | nil =>
        exfalso
        have d0 := wdiff_bd s n
        have g := winS_get n ps s xs (max (wdiff s n) 0).toNat (by omega)
        rw [hW, if_pos (by omega), List.getElem?_eq_getElem (by omega)] at g
        have h2 : isS W (max (wdiff s n) 0).toNat = true := by
          rw [isS_of g]; cases getP n ps (max (wdiff s n) 0).toNat <;> rfl
        exact runsT_ne2 (nx := n) (Nat.zero_le _) h2 2048 (by omega) hr
      | cons p l =>
        obtain ⟨j, a, b, c⟩ := runsT_first hr hno
        rw [putR, if_neg (by rw [c]; exact wadd_ne hn a (by omega))]
        have e0 : seg W 0 0 = [] := by simp [seg]
        rw [e0, show wadd n ((0 : Nat) : Int) = n from wadd0 hn]
        rfl
    · rw [if_neg h0]
      show putR n ps ((wadd n 0, seg W 0 (lead W)) :: runsT n W (lead W) 2048) = _
      rw [putR, if_pos (wadd0 hn), seg_len hl]
      rfl
  · rw [addS, if_neg hk, reaS]
    have d0 := wdiff_bd s n
    have g : ∀ i, i < 2048 → at_ W i = getP n ps i := fun i hi => by
      rw [← hW, winS_get n ps s xs i hi, if_neg (by omega), Option.or_none]
    have h0 : lead W = 0 := lead_eq (fun i h => by omega) (by rw [isS_of (g 0 (by omega)), getP_none ps 0 0 (Int.le_refl _) hg (by omega)]; rfl)
    have r := runs_pieces n W lW 0 ps [] 0 hg (Nat.le_refl _) (by omega) (fun i _ h => g i h) rfl
    rw [hW, h0, r, List.nil_append, if_neg (by omega), show wadd n ((0 : Nat) : Int) = n from wadd0 hn]
    simp [seg]
theorem reaS_of {n : Int} {ps : List Pt} {s : Int} {xs : List Int} (ts : List Int) (qs : List Pt) (ht : ts.length ≤ 2048) (hq : mayGo n ts.length qs = true) (hg : ∀ i, i < 2048 → at_ (winS n ps s xs) i = (ts[i]?).or (getP n qs i)) :
    reaS n ps s xs = if 8 < qs.length then (n, ps, []) else (wadd n ts.length, qs, ts) := by
  obtain ⟨W, hW⟩ : ∃ W, winS n ps s xs = W := ⟨_, rfl⟩
  have lW : W.length = 2048 := by rw [← hW, winS_len]
  rw [hW] at hg
  have hl : lead W = ts.length := by
    refine lead_eq (fun i h => ?_) ?_
    · rw [isS_of (hg i (by omega)), List.getElem?_eq_getElem h]; rfl
    · rcases Nat.lt_or_ge ts.length 2048 with h | h
      · rw [isS_of (hg _ h), List.getElem?_eq_none (Nat.le_refl _), getP_none qs _ _ (by omega) hq (Int.le_refl _)]; rfl
      · exact isS_out (by omega)
  have hs : seg W 0 ts.length = ts := by
    have := seg_eq (w := W) (j := 0) (xs := ts) fun k hk => by
      rw [Nat.zero_add, hg k (by omega), List.getElem?_eq_getElem hk]; rfl
    rwa [Nat.zero_add] at this
  have r := runs_pieces n W lW ts.length qs [] ts.length hq (Nat.le_refl _) ht (fun i h1 h2 => by
    rw [hg i h2, List.getElem?_eq_none h1]; rfl) (runsT_le n W _ _ (Nat.le_refl _))
  rw [reaS, hW, hl, r, hs, List.nil_append]
theorem find_end (f : Nat → Bool) (b : Bool) (hi : Nat) : ∀ (k lo : Nat), hi - lo = k → lo ≤ hi → ∃ j, lo ≤ j ∧ j ≤ hi ∧ (∀ i, lo ≤ i → i < j → f i = b) ∧ (j < hi → f j = !b)
  | 0, lo, hk, h => ⟨lo, Nat.le_refl _, h, fun i a c => by omega, fun a => by omega⟩
  | k + 1, lo, hk, h => by
    by_cases hf : f lo = b
    · obtain ⟨j, a, c, d, e⟩ := find_end f b hi k (lo + 1) (by omega) (by omega)
      refine ⟨j, by omega, c, fun i h1 h2 => ?_, e⟩
      by_cases hi : i = lo
      · rw [hi]; exact hf
      · exact d i (by omega) h2
    · exact ⟨lo, Nat.le_refl _, h, fun i a c => by omega, fun _ => by cases b <;> cases hv : f lo <;> simp_all⟩
theorem runsT_lo {nx : Int} {w : Win} {lo j : Nat} (hlo : lo ≤ j) (h : ∀ i, lo ≤ i → i < j → isS w i = false) : ∀ n, runsT nx w lo n = runsT nx w j n
  | 0 => rfl
  | n + 1 => by
    have ih := runsT_lo (nx := nx) hlo h n
    cases hs : isS w n with
    | false => rw [runsT_no hs, runsT_no hs, ih]
    | true =>
      by_cases h1 : n < lo
      · rw [runsT_le _ _ _ _ (by omega), runsT_le _ _ _ _ (by omega)]
      · have h2 : j ≤ n := by
          rcases Nat.lt_or_ge n j with h3 | h3
          · have := h n (by omega) h3; rw [hs] at this; cases this
          · exact h3
        cases hp : isS w (n - 1) with
        | false => rw [runsT_y2 (by omega) hs (.inr hp), runsT_y2 h2 hs (.inr hp), ih]
        | true =>
          by_cases h3 : n = j
          · by_cases h4 : lo = j
            · rw [h4]
            · have := h (n - 1) (by omega) (by omega); rw [hp] at this; cases this
          · rw [runsT_y1 (by omega) hs hp, runsT_y1 (by omega) hs hp, ih]
theorem runsT_head {nx : Int} {w : Win} {j m : Nat} (hjm : j < m) (hs : ∀ i, j ≤ i → i < m → isS w i = true) (hm : isS w m = false) (hl : m ≤ w.length) : ∀ n, m ≤ n → runsT nx w j n = (wadd nx j, seg w j m) :: runsT nx w m n
  | 0, h => by omega
  | n + 1, h => by
    by_cases e : n + 1 = m
    · have r := runsT_run (nx := nx) (w := w) (t := j) (j := j) (Nat.le_refl _) (.inl rfl) m hjm hl hs
      rw [e, r, runsT_le nx w j j (Nat.le_refl _), runsT_le nx w m m (Nat.le_refl _)]
      rfl
    · have ih := runsT_head (nx := nx) hjm hs hm hl n (by omega)
      cases hn : isS w n with
      | false => rw [runsT_no hn, runsT_no hn, ih]
      | true =>
        have hnt : n ≠ m := by rintro rfl; rw [hm] at hn; cases hn
        cases hp : isS w (n - 1) with
        | false => rw [runsT_y2 (by omega) hn (.inr hp), runsT_y2 (by omega) hn (.inr hp), ih, List.cons_append]
        | true =>
          have h1 : n - 1 ≠ m := by intro e2; rw [e2, hm] at hp; cases hp
          have hne := runsT_ne (nx := nx) (t := m) (n := n - 1) (by omega) hp
          rw [show n - 1 + 1 = n by omega] at hne
          rw [runsT_y1 (by omega) hn hp, runsT_y1 (by omega) hn hp, ih]
          cases hr : runsT nx w m n with
          | nil => exact absurd hr hne
          | cons q l => rfl
inductive Runs (nx : Int) (w : Win) : Nat → List Pt → Prop
  | nil (lo : Nat) (h : ∀ i, lo ≤ i → i < 2048 → isS w i = false) : Runs nx w lo []
  | cons (lo j m : Nat) (l : List Pt) (h1 : lo ≤ j) (h2 : j < m) (h3 : m ≤ 2048) (h4 : ∀ i, lo ≤ i → i < j → isS w i = false) (h5 : ∀ i, j ≤ i → i < m → isS w i = true) (h6 : isS w m = false) (h7 : Runs nx w m l) : Runs nx w lo ((wadd nx j, seg w j m) :: l)
theorem runsT_runs {nx : Int} {w : Win} (hw : w.length = 2048) : ∀ (k lo : Nat), 2048 - lo = k → lo ≤ 2048 → Runs nx w lo (runsT nx w lo 2048) := by
  intro k
  induction k using Nat.strongRecOn with
  | ind k ih =>
    intro lo hk hlo
    obtain ⟨j, a, b, c, d⟩ := find_end (isS w) false 2048 _ lo rfl hlo
    rw [runsT_lo a c]
    rcases Nat.lt_or_ge j 2048 with hj | hj
    · obtain ⟨m, a2, b2, c2, d2⟩ := find_end (isS w) true 2048 _ j rfl b
      have hjm : j < m := by
        rcases Nat.lt_or_ge j m with h | h
        · exact h
        · have : j = m := by omega
          have h1 := d hj
          have h2 := d2 (by omega)
          rw [← this, h1] at h2; cases h2
      have hm : isS w m = false := by
        rcases Nat.lt_or_ge m 2048 with h | h
        · exact d2 h
        · exact isS_out (by omega)
      rw [runsT_head hjm c2 hm (by omega) 2048 b2]
      exact .cons lo j m _ a hjm b2 c c2 hm (ih (2048 - m) (by omega) m rfl b2)
    · rw [runsT_le _ _ _ _ hj]
      exact .nil lo fun i h1 h2 => c i h1 (by omega)
theorem wdiff_add2 (n : Int) {a b : Int} (h0 : 0 ≤ a - b) (h1 : a - b < 2147483648) : wdiff (wadd n a) (wadd n b) = a - b := by
  unfold wdiff wadd
  omega
theorem within_wadd (a b : Int) : within (wadd a b) 4294967295 = true := by
  have := wadd_bd a b
  simp only [within, Bool.and_eq_true, decide_eq_true_eq]
  omega
theorem Runs.may {nx : Int} {w : Win} (hw : w.length = 2048) {t : Nat} : ∀ {lo : Nat} {l : List Pt}, Runs nx w lo l → t ≤ lo → isS w lo = false → mayGo (wadd nx t) ((lo : Int) - t) l = true := by
  intro lo l h
  induction h with
  | nil lo h => intro _ _; rfl
  | cons lo j m l h1 h2 h3 h4 h5 h6 h7 ih =>
    intro ht h0
    have hlj : lo < j := by
      rcases Nat.lt_or_ge lo j with h | h
      · exact h
      · have : lo = j := by omega
        subst this
        have := h5 lo (Nat.le_refl _) h2
        rw [h0] at this; cases this
    have e := wdiff_add2 nx (a := j) (b := t) (by omega) (by omega)
    have sl := seg_len (w := w) (j := j) (m := m) (by omega)
    rw [mayGo, mayStep, within_wadd, e, sl]
    have := ih (by omega) h6
    rw [show ((j : Int) - t + ((m - j : Nat) : Int)) = (m : Int) - t by omega, this]
    simp only [Bool.true_and, Bool.and_true, Bool.and_eq_true, decide_eq_true_eq]
    exact ⟨by omega, by omega, by omega, by omega⟩
theorem Runs.get {nx : Int} {w : Win} (hw : w.length = 2048) {t : Nat} : ∀ {lo : Nat} {l : List Pt}, Runs nx w lo l → t ≤ lo → ∀ i : Nat, lo ≤ t + i → t + i < 2048 → getP (wadd nx t) l i = at_ w (t + i) := by
  intro lo l h
  induction h with
  | nil lo h =>
    intro ht i h1 h2
    have := h (t + i) h1 h2
    rw [at_isS] at this
    cases ha : at_ w (t + i) with
    | none => rfl
    | some c => rw [ha] at this; cases this
  | cons lo j m l h1 h2 h3 h4 h5 h6 h7 ih =>
    intro ht i hi hi2
    have e := wdiff_add2 nx (a := j) (b := t) (by omega) (by omega)
    have sl := seg_len (w := w) (j := j) (m := m) (by omega)
    rw [getP]
    simp only [e]
    rw [show ((j : Int) - t).toNat = j - t by omega]
    rcases Nat.lt_or_ge (t + i) j with hj | hj
    · have := h4 (t + i) hi hj
      rw [at_isS] at this
      rw [if_neg (by omega)]
      have hn : at_ w (t + i) = none := by
        cases ha : at_ w (t + i) with
        | none => rfl
        | some c => rw [ha] at this; cases this
      rw [hn]
      have hm := h7.may hw (t := t) (by omega) h6
      rw [getP_none l _ i (by omega) hm (by omega)]
      rfl
    · rw [if_pos (by omega)]
      rcases Nat.lt_or_ge (t + i) m with hm | hm
      · have hs := h5 (t + i) hj hm
        have := seg_get (w := w) (j := j) (m := m) (k := i - (j - t)) (by omega) (by rw [show j + (i - (j - t)) = t + i by omega]; exact hs)
        rw [this, show j + (i - (j - t)) = t + i by omega, at_vals hs]
        rfl
      · rw [List.getElem?_eq_none (by omega), ih (by omega) i hm hi2]
        rfl
end Go.Proofs.Ythkjiihphdpagaa

/- A connection, and what comes of it: plain functions. No condition. -/
namespace Go.Proofs.Ythkjiihphdpagaa
open Go.RowKit
set_option linter.unusedVariables false
set_option linter.unusedSimpArgs false
structure Tm where
  on : Bool
  left : Int
  wait : Int
  tries : Int
  deriving DecidableEq
def tm0 : Tm := ⟨false, 0, 0, 0⟩
def tmNew (n : Int) : Tm := ⟨true, n, n, 0⟩
structure Cn where
  link : Int
  ip : Int
  pp : Int
  port : Int
  st : Int
  una : Int
  nx : Int
  win : Int
  out : List Int
  inx : Int
  parts : List Pt
  closing : Bool
  tm : Tm
  deriving DecidableEq
structure Sg where
  sp : Int
  dp : Int
  seq : Int
  ack : Int
  fl : Int
  win : Int
  data : List Int
  deriving DecidableEq
structure Stp where
  c : Cn
  out : List Sg
  told : List Int
def Cn.sent (c : Cn) : Int := wdiff c.nx c.una
def Cn.len (c : Cn) : Int := c.out.length
def tmB (t : Tm) : Bool := decide (0 ≤ t.left ∧ t.left ≤ 48 ∧ 0 ≤ t.wait ∧ t.wait ≤ 48 ∧ 0 ≤ t.tries ∧ t.tries ≤ 8) && (t.on || t.left == 0)
def eqTm (a b : Tm) : Bool := a.on == b.on && (a.left == b.left && (a.wait == b.wait && (a.tries == b.tries && true)))
def numB (c : Cn) : Bool :=
  bif c.st == 0 then (((c.out.length : Int) == 0) && (((c.parts.length : Int) == 0) && eqTm c.tm tm0))
  else bif c.st == 1 then (c.sent == 1)
  else bif (c.st == 4 || c.st == 8) then (c.closing && ((c.sent == 0) && ((c.out.length : Int) == 0)))
  else bif (c.st == 3 || (c.st == 6 || c.st == 7)) then (c.closing && (c.sent == (c.out.length : Int) + 1))
  else (decide (0 ≤ c.sent) && decide (c.sent ≤ (c.out.length : Int)))
def cnB (c : Cn) : Bool :=
  within c.link 1099511627776 && (within c.ip 4294967295 && (within c.pp 65535 && (within c.port 65535 && (!decide (c.st < 0) && (!decide (8 < c.st) && (within c.una 4294967295 && (within c.nx 4294967295 && (within c.win 65535 &&
    (!decide (8192 < (c.out.length : Int)) && (mayB c.inx c.parts && (tmB c.tm && numB c)))))))))))
def sgB (s : Sg) : Bool := within s.sp 65535 && (within s.dp 65535 && (within s.seq 4294967295 && (within s.ack 4294967295 && (within s.fl 63 && (within s.win 65535 && decide (s.data.length ≤ 1460))))))
def Stp.seg (s : Stp) (seq fl : Int) (data : List Int) : Stp := { s with out := s.out ++ [⟨s.c.port, s.c.pp, seq, s.c.inx, fl, 2048, data⟩] }
def Stp.acks (s : Stp) : Stp := s.seg s.c.nx 16 []
def Cn.shut (c : Cn) : Cn := { c with st := 0, out := [], parts := [], tm := tm0 }
def Stp.shut (s : Stp) : Stp := { s with c := s.c.shut }
def Cn.pumpN (c : Cn) : Int := min 536 (min (c.len - c.sent) (c.win - c.sent))
def Stp.pump1 (s : Stp) : Stp :=
  { c := { s.c with nx := wadd s.c.nx s.c.pumpN }, out := s.out ++ [⟨s.c.port, s.c.pp, s.c.nx, s.c.inx, 24, 2048, (s.c.out.drop s.c.sent.toNat).take s.c.pumpN.toNat⟩], told := s.told }
def pumpGo : Nat → Stp → Stp
  | 0, s => s
  | k + 1, s => if s.c.pumpN ≤ 0 then s else pumpGo k s.pump1
def Stp.pump2 (s : Stp) : Stp :=
  if s.c.closing = true ∧ s.c.sent = s.c.len then
    { c := { s.c with nx := wadd s.c.nx 1, st := if s.c.st = 2 then 3 else 7 }, out := s.out ++ [⟨s.c.port, s.c.pp, s.c.nx, s.c.inx, 17, 2048, []⟩], told := s.told }
  else s
def Stp.pump3 (s : Stp) : Stp := if s.c.tm.on = false ∧ (0 < s.c.sent ∨ s.c.sent < s.c.len) then { s with c := { s.c with tm := tmNew 3 } } else s
def Stp.pump (s : Stp) : Stp := (pumpGo s.c.out.length s).pump2.pump3
def Cn.talks (c : Cn) : Bool := c.st == 2 || c.st == 5
def finOut (st : Int) : Bool := decide (st = 3 ∨ st = 4 ∨ st = 6 ∨ st = 7 ∨ st = 8)
def flN (fl b : Int) : Bool := bits .and .i64 fl b == 0
def Sg.len (m : Sg) : Int := (m.data.length : Int) + (bif flN m.fl 2 then 0 else 1) + (bif flN m.fl 1 then 0 else 1)
def Cn.accepts (c : Cn) (m : Sg) : Bool := decide (woff m.seq c.inx < 2048) || (decide (0 < m.len) && decide (woff (wadd m.seq (m.len - 1)) c.inx < 2048))
def Cn.ackC (c : Cn) (m : Sg) : Cn := { c with win := m.win, out := c.out.drop (min (wdiff m.ack c.una) c.out.length).toNat, una := m.ack, tm := tm0 }
def Stp.ack (s : Stp) (m : Sg) : Stp × Bool :=
  bif s.c.st == 1 then
    bif m.ack == s.c.nx then ({ s with c := { s.c with una := s.c.nx, st := 2, tm := tm0, win := m.win } }, true)
    else ({ s with out := s.out ++ [⟨s.c.port, s.c.pp, m.ack, 0, 4, 0, []⟩] }, false)
  else bif decide (0 < wdiff m.ack s.c.nx) then (s.acks, false)
  else bif decide (wdiff m.ack s.c.una ≤ 0) then ({ s with c := { s.c with win := m.win } }, true)
  else bif finOut s.c.st && (wdiff s.c.nx m.ack == 0) then
    bif s.c.st == 3 then ({ s with c := { s.c.ackC m with st := 4 } }, true)
    else bif s.c.st == 6 then ({ s with c := { s.c.ackC m with st := 8, tm := tmNew 20 } }, true)
    else bif s.c.st == 7 then ({ s with c := (s.c.ackC m).shut }, true)
    else ({ s with c := s.c.ackC m }, true)
  else ({ s with c := s.c.ackC m }, true)
def Cn.hears (c : Cn) : Bool := c.st == 2 || (c.st == 3 || c.st == 4)
def Stp.dataFin (s : Stp) (m : Sg) : Stp :=
  bif flN m.fl 1 then s
  else bif wadd m.seq m.data.length == s.c.inx then
    bif decide (0 < (s.c.parts.length : Int)) then s
    else bif s.c.st == 2 then { s with c := { s.c with inx := wadd s.c.inx 1, st := 5 } }
    else bif s.c.st == 3 then { s with c := { s.c with inx := wadd s.c.inx 1, st := 6 } }
    else { s with c := { s.c with inx := wadd s.c.inx 1, st := 8, tm := tmNew 20 } }
  else s
def Stp.dataIn (s : Stp) (m : Sg) : Stp :=
  { c := { s.c with inx := (reaS s.c.inx s.c.parts m.seq m.data).1, parts := (reaS s.c.inx s.c.parts m.seq m.data).2.1 }, out := s.out, told := (reaS s.c.inx s.c.parts m.seq m.data).2.2 }
def Stp.data (s : Stp) (m : Sg) : Stp := bif s.c.hears then (s.dataIn m).dataFin m else s
def Cn.lateB (c : Cn) : Bool := !c.tm.on && (decide (0 < c.sent) && (!(c.st == 0) && !(c.st == 8)))
def Stp.late (s : Stp) : Stp := bif s.c.lateB then { s with c := { s.c with tm := tmNew 3 } } else s
def Stp.ackLen (s : Stp) (m : Sg) : Stp := bif decide (0 < m.len) then s.acks else s
def Stp.pumpT (s : Stp) : Stp := bif s.c.talks then s.pump else s
def Stp.more (s : Stp) (m : Sg) : Stp := ((s.data m).ackLen m).pumpT.late
def Stp.take (s : Stp) (m : Sg) : Stp :=
  bif s.c.st == 0 then s
  else bif s.c.accepts m then
    bif flN m.fl 4 then
      bif flN m.fl 2 then
        bif flN m.fl 16 then s
        else bif (s.ack m).2 then (s.ack m).1.more m else (s.ack m).1
      else s.acks
    else s.shut
  else bif flN m.fl 4 then (bif s.c.st == 8 then { s.acks with c := { s.c with tm := tmNew 20 } } else s.acks)
  else s
def Cn.start (c : Cn) : Stp := ⟨c, [], []⟩
def Cn.takes (c : Cn) (m : Sg) : Stp := c.start.take m
def Cn.sendE (c : Cn) (b : List Int) : Int := bif c.talks && !c.closing then (bif decide (8192 - (c.out.length : Int) < (b.length : Int)) then 5 else 0) else 6
def Cn.sends (c : Cn) (b : List Int) : Stp := ({ c with out := c.out ++ b } : Cn).start.pump
def Cn.closes (c : Cn) : Stp := bif c.talks then ({ c with closing := true } : Cn).start.pump else ({ c with closing := true } : Cn).start
def Stp.abort (s : Stp) : Stp := bif s.c.st == 0 then s.shut else (s.seg s.c.nx 20 []).shut
def Cn.aborts (c : Cn) : Stp := c.start.abort
def tmBeat (t : Tm) : Tm := { t with left := if t.on then max (t.left - 1) 0 else t.left }
def tmRings (t : Tm) : Bool := t.on && (tmBeat t).left == 0
def tmBack (t : Tm) : Tm := ⟨t.on, min (max (2 * t.wait) 1) 48, min (max (2 * t.wait) 1) 48, t.tries + 1⟩
def Stp.again (s : Stp) : Stp :=
  bif s.c.st == 1 then s.seg s.c.una 18 []
  else bif decide (0 < s.c.sent) && decide (0 < (s.c.out.length : Int)) then s.seg s.c.una 24 (s.c.out.take (min (min s.c.sent s.c.len) 536).toNat)
  else bif decide (0 < s.c.sent) then s.seg s.c.una 17 []
  else bif decide (0 < (s.c.out.length : Int)) then
    { c := { s.c with nx := wadd s.c.nx 1 }, out := s.out ++ [⟨s.c.port, s.c.pp, s.c.nx, s.c.inx, 24, 2048, s.c.out.take 1⟩], told := s.told }
  else { s with c := { s.c with tm := tm0 } }
def Cn.ticks (c : Cn) : Stp :=
  bif tmRings c.tm then
    bif c.st == 8 then ({ c with tm := tmBeat c.tm } : Cn).start.shut
    else bif c.tm.tries == 8 then ({ c with tm := tmBeat c.tm } : Cn).aborts
    else ({ c with tm := tmBack (tmBeat c.tm) } : Cn).start.again
  else ({ c with tm := tmBeat c.tm } : Cn).start
def openB (link ip iss : Int) (s : Sg) : Bool := within link 1099511627776 && (within ip 4294967295 && (within iss 4294967295 && (sgB s && (!(flN s.fl 2) && flN s.fl 20))))
def opens (link ip iss : Int) (s : Sg) : Stp :=
  (⟨link, ip, s.sp, s.dp, 1, iss, wadd iss 1, s.win, [], wadd s.seq 1, [], false, tmNew 3⟩ : Cn).start.seg iss 18 []
end Go.Proofs.Ythkjiihphdpagaa

/- Timers' functions on data, a timer being one thing. Conditions: bounds of numbers. -/
namespace Go.Proofs.Ythkjiihphdpagaa
open Go.RowKit
set_option linter.unusedVariables false
set_option linter.unusedSimpArgs false
set_option maxRecDepth 100000
set_option maxHeartbeats 4000000
abbrev tmC (t : Tm) : List AV := [.val (.bool t.on), .val (.int .i64 t.left), .val (.int .i64 t.wait), .val (.int .i64 t.tries)]
abbrev tmA (t : Tm) : AV := .agg (tmC t)
theorem twithin_l (n m : Int) : ACallL Try.prog 69 [.val (.int .i64 n), .val (.int .i64 m)] [.perm] (.val (.bool (decide (0 ≤ n ∧ n ≤ m)))) [.perm] := by
  refine ACallL.of_ev mixed Try.func69 rfl (fun a w => Try.call69 a w) (congrArg Array.toList Try.results69) Try.ntmps69 fun B hB => ?_; ((conv => whnf); (repeat' ((first | (with_reducible refine qif_t (by assumption) ?_) | (with_reducible refine qif_f (by assumption) ?_) | ((with_reducible refine qif_t ?_ ?_); focus decide) | ((with_reducible refine qif_f ?_ ?_); focus decide) | with_reducible refine qif_i (fun _ => ?_) (fun _ => ?_)) <;> (conv => whnf)))); all_goals (refine qConv.of hB [] [(0, 0)] [] (by rfl) ?_; focus ((conv => whnf); (repeat (refine And.intro ?_ ?_; rotate_left; (conv => whnf))); exact trivial; all_goals (try exact andT))); all_goals ((try congr 1); first | done | omega | (simp_all; done) | (simp_all; omega))
theorem tnew_l (n : Int) : ACallL Try.prog 32 [.val (.int .i64 n)] [.perm] (tmA (tmNew n)) [.perm] := by
  refine ACallL.of_ev mixed Try.func32 rfl (fun a w => Try.call32 a w) (congrArg Array.toList Try.results32) Try.ntmps32 fun B hB => ?_; ((conv => whnf); (repeat' ((first | (with_reducible refine qif_t (by assumption) ?_) | (with_reducible refine qif_f (by assumption) ?_) | ((with_reducible refine qif_t ?_ ?_); focus decide) | ((with_reducible refine qif_f ?_ ?_); focus decide) | with_reducible refine qif_i (fun _ => ?_) (fun _ => ?_)) <;> (conv => whnf)))); all_goals (refine qConv.of hB [] [(0, 0)] [] (by rfl) ?_; focus ((conv => whnf); (repeat (refine And.intro ?_ ?_; rotate_left; (conv => whnf))); exact trivial; all_goals (try exact andT))); all_goals ((try congr 1); first | done | omega | (simp_all; done) | (simp_all; omega))
theorem tmay_l (t : Tm) : ACallL Try.prog 57 [tmA t] [.perm] (.val (.bool (tmB t))) [.perm] := by
  obtain ⟨on, l, wt, tr⟩ := t
  refine ACallL.of_ev mixed Try.func57 rfl (fun a w => Try.call57 a w) (congrArg Array.toList Try.results57) Try.ntmps57 fun B hB => ?_
  ((conv => whnf); (repeat' ((first | (with_reducible first | refine qif_n ?_ | refine qif_t ‹_› ?_ | refine qif_f ‹_› ?_) | ((with_reducible refine qif_t ?_ ?_); focus decide) | ((with_reducible refine qif_f ?_ ?_); focus decide) | (with_reducible refine And.intro (orderOk_i ?ho) ?_; (case ho => kernel_rfl)) | (with_reducible first | refine qif_i (fun _ => ?_) (fun _ => ?_) | refine frcVs_i ?_ | refine frcRs_i ?_) | ((with_reducible refine qCall.pure (twithin_l _ _) ?_ ?_ ?_ ?_); rotate_left 4; exact trivial; exact plT; exact plT)) <;> (conv => whnf))))
  all_goals (refine qConv.of hB [] [(0, 0)] [] (by rfl) ?_; focus ((conv => whnf); (repeat (refine And.intro ?_ ?_; rotate_left; (conv => whnf))); exact trivial; all_goals (try exact andT)))
  all_goals (congr 1; simp_all [tmB] <;> omega)
theorem tmB_t {t : Tm} (h : tmB t = true) : (0 ≤ t.left ∧ t.left ≤ 48) ∧ (0 ≤ t.wait ∧ t.wait ≤ 48) ∧ (0 ≤ t.tries ∧ t.tries ≤ 8) ∧ (t.on = true ∨ t.left = 0) := by
  simp only [tmB, Bool.and_eq_true, decide_eq_true_eq, Bool.or_eq_true, beq_iff_eq] at h
  exact ⟨by omega, by omega, by omega, h.2⟩
theorem tbeat_l (t : Tm) (hl : 0 ≤ t.left ∧ t.left ≤ 48) : ACallL Try.prog 40 [tmA t] [.perm] (.tup [tmA (tmBeat t), .val (.bool (tmRings t))]) [.perm] := by
  obtain ⟨on, l, wt, tr⟩ := t
  dsimp only at hl
  have w := IntWalk.i64_in (l - 1) (by omega)
  cases on <;> refine ACallL.of_ev mixed Try.func40 rfl (fun a w => Try.call40 a w) (congrArg Array.toList Try.results40) Try.ntmps40 fun B hB => ?_
  all_goals ((conv => whnf); (repeat' ((first | (with_reducible first | refine qif_n ?_ | refine qif_t ‹_› ?_ | refine qif_f ‹_› ?_) | ((with_reducible refine qif_t ?_ ?_); focus decide) | ((with_reducible refine qif_f ?_ ?_); focus decide) | (with_reducible refine And.intro (orderOk_i ?ho) ?_; (case ho => kernel_rfl)) | (with_reducible first | refine qif_i (fun _ => ?_) (fun _ => ?_) | refine frcVs_i ?_ | refine frcRs_i ?_) | (refine qAW.jump mixed 2 ?_)) <;> (conv => whnf))))
  (all_goals (refine qConv.of hB [] [(0, 0)] [] (by rfl) ?_; focus ((conv => whnf); (repeat (refine And.intro ?_ ?_; rotate_left; (conv => whnf))); exact trivial; all_goals (try exact andT))); all_goals (try (congr 1)); all_goals (first | done | omega | (simp_all [tmRings, tmBeat]; done) | (simp_all [tmRings, tmBeat]; omega)))
theorem tback_l (t : Tm) (hm : tmB t = true) (ho : t.on = true) : ACallL Try.prog 42 [tmA t] [.perm] (.tup [tmA (if t.tries = 8 then tm0 else tmBack t), .val (.int .i64 (if t.tries = 8 then 6 else 0))]) [.perm] := by
  have hb := tmB_t hm
  have hc := tmay_l t
  rw [hm] at hc
  obtain ⟨on, l, wt, tr⟩ := t
  dsimp only at hb ho ⊢
  subst ho
  have w := IntWalk.i64_in (2 * wt) (by omega)
  have w2 := IntWalk.i64_in (tr + 1) (by omega)
  by_cases h8 : tr = 8
  · rw [if_pos h8, if_pos h8]
    refine ACallL.of_ev mixed Try.func42 rfl (fun a w => Try.call42 a w) (congrArg Array.toList Try.results42) Try.ntmps42 fun B hB => ?_
    ((conv => whnf); (repeat' ((first | (with_reducible first | refine qif_n ?_ | refine qif_t ‹_› ?_ | refine qif_f ‹_› ?_) | ((with_reducible refine qif_t ?_ ?_); focus decide) | ((with_reducible refine qif_f ?_ ?_); focus decide) | (with_reducible refine And.intro (orderOk_i ?ho) ?_; (case ho => kernel_rfl)) | ((with_reducible refine qif_t ?_ ?_); focus (simp [h8]; done)) | ((with_reducible refine qif_f ?_ ?_); focus (simp [h8]; done)) | (with_reducible first | refine qif_i (fun _ => ?_) (fun _ => ?_) | refine frcVs_i ?_ | refine frcRs_i ?_) | ((with_reducible refine qCall.pure (hc) ?_ ?_ ?_ ?_); rotate_left 4; exact trivial; exact plT; exact plT)) <;> (conv => whnf))))
    (all_goals (refine qConv.of hB [] [(0, 0)] [] (by rfl) ?_; focus ((conv => whnf); (repeat (refine And.intro ?_ ?_; rotate_left; (conv => whnf))); exact trivial; all_goals (try exact andT))); all_goals (try (congr 1)); all_goals (first | done | omega | (simp_all [tm0]; done) | (simp_all [tm0]; omega)))
  · rw [if_neg h8, if_neg h8]
    refine ACallL.of_ev mixed Try.func42 rfl (fun a w => Try.call42 a w) (congrArg Array.toList Try.results42) Try.ntmps42 fun B hB => ?_
    ((conv => whnf); (repeat' ((first | (with_reducible first | refine qif_n ?_ | refine qif_t ‹_› ?_ | refine qif_f ‹_› ?_) | ((with_reducible refine qif_t ?_ ?_); focus decide) | ((with_reducible refine qif_f ?_ ?_); focus decide) | (with_reducible refine And.intro (orderOk_i ?ho) ?_; (case ho => kernel_rfl)) | ((with_reducible refine qif_t ?_ ?_); focus (simp [h8]; done)) | ((with_reducible refine qif_f ?_ ?_); focus (simp [h8]; done)) | (with_reducible first | refine qif_i (fun _ => ?_) (fun _ => ?_) | refine frcVs_i ?_ | refine frcRs_i ?_) | ((with_reducible refine qCall.pure (hc) ?_ ?_ ?_ ?_); rotate_left 4; exact trivial; exact plT; exact plT)) <;> (conv => whnf))))
    (all_goals (refine qConv.of hB [] [(0, 0)] [] (by rfl) ?_; focus ((conv => whnf); (repeat (refine And.intro ?_ ?_; rotate_left; (conv => whnf))); exact trivial; all_goals (try exact andT))); all_goals (try (congr 1)); all_goals (first | done | omega | (simp_all [tmBack]; done) | (simp_all [tmBack]; omega)))
end Go.Proofs.Ythkjiihphdpagaa

/- A connection, a segment on data: copied, compared. Conditions: lengths. -/
namespace Go.Proofs.Ythkjiihphdpagaa
open Go.RowKit
set_option linter.unusedVariables false
set_option linter.unusedSimpArgs false
set_option maxRecDepth 100000
set_option maxHeartbeats 4000000
abbrev cnL (o p : AV) (c : Cn) : List AV := [.val (.int .i64 c.link), .val (.int .i64 c.ip), .val (.int .i64 c.pp), .val (.int .i64 c.port), .val (.int .i64 c.st), .val (.int .i64 c.una), .val (.int .i64 c.nx), .val (.int .i64 c.win), o, .val (.int .i64 c.inx), p, .val (.bool c.closing), .val (.bool c.tm.on), .val (.int .i64 c.tm.left), .val (.int .i64 c.tm.wait), .val (.int .i64 c.tm.tries)]
abbrev cnR (r : Nat) (c : Cn) : List AV := cnL (bL r c.out) (.list r 2 (c.parts.map (prt r))) c
abbrev cnG (o p d : Nat) (c : Cn) : List AV := cnL (gL o c.out) (.list p 2 (c.parts.map (prg d))) c
abbrev sgL (d : AV) (m : Sg) : List AV := [.val (.int .i64 m.sp), .val (.int .i64 m.dp), .val (.int .i64 m.seq), .val (.int .i64 m.ack), .val (.int .i64 m.fl), .val (.int .i64 m.win), d]
abbrev sgR (r : Nat) (m : Sg) : List AV := sgL (bL r m.data) m
abbrev sgG (r : Nat) (m : Sg) : List AV := sgL (gL r m.data) m
def CnLen (c : Cn) : Prop := c.out.length ≤ 100000000 ∧ PtsOk c.parts
theorem refDiff_l (s n : Int) : ACallL Try.prog 20 [.val (.int .i64 s), .val (.int .i64 n)] [.perm] (.val (.int .i64 (wdiff s n))) [.perm] :=
  ACallL.of_vals (us := [.int .i64 s, .int .i64 n]) (fun a w => Try.call20 a w) (fun w => refDiff_c s n w) (fun _ _ _ => .val _)
end Go.Proofs.Ythkjiihphdpagaa

/- Segments and connections that are let go of. No condition but lengths. -/
namespace Go.Proofs.Ythkjiihphdpagaa
open Go.RowKit
open BigFrame
set_option linter.unusedVariables false
set_option linter.unusedSimpArgs false
set_option maxRecDepth 100000
def SgAt (w : World) (g o : Nat) (e : TypeId) : Prop :=
  ∃ cur, w.heap[g]? = some (.cells cur e (0, 0)) ∧ (∀ j, j < 6 → ∃ x, cur[o + j]? = some (.int .i64 x)) ∧ ∃ p n c, cur[o + 6]? = some (.slice p n c)
theorem SgAt.setI {D P : Nat → Prop} {a w : World} (hdp : ∀ g, D g → ¬ P g) {g o j : Nat} {e : TypeId} (hp : P g) (hj : j < 6) (y : Int) (h : Sp D P a w ∧ SgAt w g o e) : Sp D P a (w.setCell ⟨g, o + j, none⟩ (.int .i64 y)) ∧ SgAt (w.setCell ⟨g, o + j, none⟩ (.int .i64 y)) g o e := by
  obtain ⟨hS, cur, h1, h2, p, n, c, h3⟩ := h
  obtain ⟨x, hx⟩ := h2 j hj
  refine ⟨hS.setPart hdp hp (o + j) _ h1 hx (.inr (.inl ⟨_, _, _, rfl, rfl⟩)), _, heap_setCell_at h1 _, fun i hi => ?_, p, n, c, by rw [Array.getElem?_setIfInBounds_ne (by omega)]; exact h3⟩
  by_cases hij : i = j
  · subst hij
    have hlt : o + i < cur.size := (Array.getElem?_eq_some_iff.1 hx).1
    exact ⟨y, by simp [Array.getElem?_setIfInBounds, hlt]⟩
  · obtain ⟨z, hz⟩ := h2 i hi
    exact ⟨z, by rw [Array.getElem?_setIfInBounds_ne (by omega)]; exact hz⟩
def SgSp (D P : Nat → Prop) (w : World) (v : Value) : Prop :=
  v = .slice none 0 0 ∨ (∃ a cap, v = .slice (some a) 0 cap) ∨ ∃ g off n cap cur e, v = .slice (some ⟨g, off, none⟩) n cap ∧ P g ∧ n ≤ 100000000 ∧ w.heap[g]? = some (.cells cur e (0, 0)) ∧ ∀ k, k < n → (∀ j, j < 6 → ∃ x, cur[off + k * 7 + j]? = some (.int .i64 x)) ∧ ∃ u, cur[off + k * 7 + 6]? = some u ∧ BySp D w u
theorem SgSp.row {D P : Nat → Prop} {w wr : World} {g o : Nat} {cur : Array Value} {e : TypeId} {u : Value} (hp : P g) (h1 : w.heap[g]? = some (.cells cur e (0, 0))) (h2 : ∀ j, j < 6 → ∃ x, cur[o + j]? = some (.int .i64 x)) (h3 : cur[o + 6]? = some u) (h4 : BySp D w u) (S : Sp D P w wr) :
    ∃ cur' u', wr.heap[g]? = some (.cells cur' e (0, 0)) ∧ (∀ j, j < 6 → ∃ y, cur'[o + j]? = some (.int .i64 y)) ∧ cur'[o + 6]? = some u' ∧ BySp D wr u' ∧ ∃ p n c, u' = .slice p n c := by
  obtain ⟨c, a1, a2, a3⟩ := S.prt g hp cur e h1
  obtain ⟨v2, c1, c2⟩ := a3 _ _ h3
  have hsl : ∃ p n c, u = .slice p n c := by
    rcases h4 with h | ⟨a, h⟩ | ⟨g', o', n', cap', cu, e', h, _⟩
    · exact ⟨_, _, _, h⟩
    · exact ⟨_, _, _, h⟩
    · exact ⟨_, _, _, h⟩
  have hj : ∀ j, j < 6 → ∃ y, c[o + j]? = some (.int .i64 y) := fun j hj => by
    obtain ⟨x, hx⟩ := h2 j hj
    obtain ⟨v1, b1, b2⟩ := a3 _ _ hx
    rcases b2 with rfl | ⟨k', x', y', e1, e2⟩ | ⟨p, n, q, e1, e2⟩
    · exact ⟨x, b1⟩
    · cases e1; exact ⟨y', by rw [b1, e2]⟩
    · cases e1
  rcases c2 with rfl | ⟨k', x', y', e1, e2⟩ | ⟨p, n, q, e1, e2⟩
  · exact ⟨c, v2, a1, hj, c1, h4.mono S, hsl⟩
  · obtain ⟨p, n, q, hu⟩ := hsl
    rw [e1] at hu; cases hu
  · exact ⟨c, v2, a1, hj, c1, .inl e2, by rw [e2]; exact ⟨_, _, _, rfl⟩⟩
end Go.Proofs.Ythkjiihphdpagaa

/- Arguments of which a callee looks at some cells alone: the others stand for anything. No condition. -/
namespace Go.Proofs.Ythkjiihphdpagaa
open Go.RowKit
set_option linter.unusedVariables false
set_option linter.unusedSimpArgs false
abbrev dot : AV := .ptr 1 0 0
inductive Blind : AV → AV → Prop
  | dot (c : AV) (h : c.one = true) : Blind c dot
  | val (v : Value) : Blind (.val v) (.val v)
  | agg (cs cs' : List AV) (hl : cs.length = cs'.length) (H : ∀ (i : Nat) (c c' : AV), cs[i]? = some c → cs'[i]? = some c' → Blind c c') : Blind (.agg cs) (.agg cs')
def BlindL (cs cs' : List AV) : Prop := cs.length = cs'.length ∧ ∀ (i : Nat) (c c' : AV), cs[i]? = some c → cs'[i]? = some c' → Blind c c'
theorem BlindL.nil : BlindL [] [] := ⟨rfl, by simp⟩
theorem BlindL.cons {c c' : AV} {cs cs' : List AV} (h : Blind c c') (H : BlindL cs cs') : BlindL (c :: cs) (c' :: cs') := by
  refine ⟨by simp [H.1], fun i x y hx hy => ?_⟩
  cases i with
  | zero => simp at hx hy; subst hx hy; exact h
  | succ i => exact H.2 i x y (by simpa using hx) (by simpa using hy)
theorem Blind.r {m m' : Nm} {h : Hp} {w : World} {c c' : AV} {v : Value} (hb : Blind c c') (hR : R m h w c v) : R m' (ofL [.perm, .dead]) w c' v := by
  induction hb generalizing v with
  | dot c h1 => exact .ptrD 1 0 0 v rfl (hR.one h1)
  | val u =>
    have := hR.val_inv
    subst this
    exact .val _
  | agg cs cs' hl H ih =>
    cases hR with
    | agg _ vs hl2 hc =>
      refine .agg _ _ (hl ▸ hl2) fun i c v h1 h2 => ?_
      obtain ⟨d, hd⟩ : ∃ d, cs[i]? = some d := ⟨_, List.getElem?_eq_getElem (by rw [hl]; exact (List.getElem?_eq_some_iff.1 h1).1)⟩
      exact ih i d c hd h1 (hc i d v hd h2)
theorem ofL_pd (x : Nat) : ofL [.perm, .dead] x = .perm ∨ ofL [.perm, .dead] x = .dead ∨ ofL [.perm, .dead] x = .unused := by
  rcases x with _ | _ | x <;> simp [ofL, List.getD]
theorem qCall.blind {P : Program} {f : FuncId} {args args' : List AV} {u : Value} (H : ACallL P f args' [.perm, .dead] (.val u) [.perm, .dead]) (hb : BlindL args args') {h : List Own} {K : AV → List Nat → List Nat → List Own → Prop} (hq : K (.val u) [] [] h) : qCall P f args h K := by
  unfold qCall
  refine ⟨[], [], .val u, ⟨H.1, fun hh m w vs _ rel hl => ?_⟩, ⟨fun q hq => absurd hq List.not_mem_nil, trivial⟩, hq⟩
  let m' : Nm := ⟨fun _ => (0, 0), fun _ _ => False⟩
  have nl : ∀ id k, ofL [.perm, .dead] id ≠ .live k := fun id k e => by rcases ofL_pd id with h | h | h <;> rw [h] at e <;> cases e
  have nu : ∀ id, ofL [.perm, .dead] id ≠ .uniq := fun id e => by rcases ofL_pd id with h | h | h <;> rw [h] at e <;> cases e
  have rel' : Rel m' (ofL [.perm, .dead]) w := ⟨fun id k e => (nl id k e).elim, fun id id' k k' e => (nl id k e).elim, fun id k r e => (nl id k e).elim, fun r r' g e => (nu r e).elim, fun r g _ e => e.elim, fun r g e => (nu r e).elim⟩
  refine (H.2 m' w vs rel' ⟨hb.1 ▸ hl.1, fun i c v h1 h2 => ?_⟩).mono ?_
  · obtain ⟨d, hd⟩ : ∃ d, args[i]? = some d := ⟨_, List.getElem?_eq_getElem (by rw [hb.1]; exact (List.getElem?_eq_some_iff.1 h1).1)⟩
    exact (hb.2 i d c hd h1).r (hl.2 i d v hd h2)
  · rintro e w' ⟨v, m2, rfl, rel2, ev, hv⟩
    have hv := hv.val_inv
    subst hv
    have fr : ∀ g, g < w.heap.size → w'.heap[g]? = w.heap[g]? := fun g hg => ev.frame g hg (fun id k e => (nl id k e).elim) (fun r e => (nu r e).elim)
    have ev2 : Ev m hh w m hh w' := by
      refine ⟨fun _ _ => rfl, fun _ _ => rfl, fun id => Own.goes_refl _, ev.size, fun id k k' h1 h2 cur e f hc => ?_, fun g hg _ _ => fr g hg, fun id k h1 h2 => (by rw [h1] at h2; cases h2), fun r g h1 h2 => (by rw [h1] at h2; cases h2), ev.os, ev.tape, ev.output⟩
      obtain ⟨cur0, h3, _⟩ := rel.own id k h1
      have hlt := (Array.getElem?_eq_some_iff.1 h3).1
      rw [fr _ hlt] at hc
      exact ⟨cur, e, f, hc, rfl⟩
    refine ⟨_, m, rfl, ?_, ev2, .val _⟩
    refine ⟨fun id k e => ?_, rel.sep, rel.sepR, rel.sepU, fun r g h1 h2 => Nat.lt_of_lt_of_le (rel.bound r g h1 h2) ev.size, fun r g h1 h2 => ?_⟩
    · obtain ⟨cur, h3, h4, h5, h6⟩ := rel.own id k e
      refine ⟨cur, by rw [fr _ (Array.getElem?_eq_some_iff.1 h3).1]; exact h3, h4, h5, fun i j row c h7 h8 => ?_⟩
      obtain ⟨v, h9, h10⟩ := h6 i j row c h7 h8
      exact ⟨v, h9, R.mono rel ev2 h10⟩
    · obtain ⟨cur, e, h3⟩ := rel.free r g h1 h2
      exact ⟨cur, e, by rw [fr _ (Array.getElem?_eq_some_iff.1 h3).1]; exact h3⟩
theorem AW.seqC {P : Program} {B : Base} {x y : Code} {Q : AExit → ASt → Prop} {st : ASt} (h : AW P B x (fun e st => match e with | .normal => AW P B y Q st | e => Q e st) st) : AW P B (.seq x y) Q st := by
  intro m w a hs hev
  refine wp_seq (wp_mono (h m w a hs hev) ?_)
  rintro e a' w' ⟨e', st', m', rfl, hq, hs', ev⟩
  cases e' with
  | normal => exact hq m' w' a' hs' ev
  | exit id => exact ⟨.exit id, st', m', rfl, hq, hs', ev⟩
  | goto l => exact ⟨.goto l, st', m', rfl, hq, hs', ev⟩
  | ret => exact ⟨.ret, st', m', rfl, hq, hs', ev⟩
theorem qAW.scopeL {P : Program} (hm : P.follows .mixedOrders = true) {B : Base} {X : Type} {pre R : Code} {l : Nat} {Q : AExit → List AV → List Own → Prop} {sl : List AV} {h : List Own} (hf : findLabel (.seq pre (.seq (.label l) R)) l = some (.seq .skip R)) (F : X → List AV) (G : X → List Own) (I : X → Prop) (μ : X → Nat)
    (first : ev P B pre (fun e sl h => match e with | .normal => ∃ y, I y ∧ qConv B sl h (F y) (G y) | _ => False) sl h)
    (pass : ∀ (E : List AV → List Own → Prop), ∀ x, I x → E = ev P B (.seq .skip R) (fun e sl h => match e with | .goto l' => (match Nat.beq l' l with | true => ∃ y, I y ∧ μ y < μ x ∧ qConv B sl h (F y) (G y) | false => False) | e => Q e sl h) → frcVV (F x) fun sl => frcOs (G x) fun h => E sl h) : qAW P B (.scope (.seq pre (.seq (.label l) R))) Q sl h := by
  have key : ∀ x, I x → AW P B (.seq .skip R) (fun e st => match e with | .goto l' => (match Nat.beq l' l with | true => ∃ y, I y ∧ μ y < μ x ∧ qConv B st.sl st.h (F y) (G y) | false => False) | e => Q e st.sl st.h) ⟨F x, G x⟩ := fun x hx => by
    have hp := pass _ x hx rfl
    simp only [frcVV_eq, frcOs_eq] at hp
    exact AW.mono (awp_sound hm _ _ ⟨_, _⟩ (ev_awp _ _ _ _ hp)) fun e st H => H
  have key2 : ∀ x, I x → AW P B (.seq (.label l) R) (fun e st => match e with | .goto l' => (match Nat.beq l' l with | true => ∃ y, I y ∧ μ y < μ x ∧ qConv B st.sl st.h (F y) (G y) | false => False) | e => Q e st.sl st.h) ⟨F x, G x⟩ := fun x hx => by
    have hp := pass _ x hx rfl
    simp only [frcVV_eq, frcOs_eq] at hp
    exact AW.mono (awp_sound hm (.seq (.label l) R) _ ⟨_, _⟩ (ev_awp (.seq (.label l) R) _ _ _ hp)) fun e st H => H
  unfold qAW
  refine AW_scope (P := P) (X := { x : X // I x }) (fun _ => l) (fun x => ⟨F x.1, G x.1⟩) (fun x => μ x.1) (fun _ => by rw [hf]; rfl) (AW.seqC (AW.mono (awp_sound hm _ _ ⟨_, _⟩ (ev_awp _ _ _ _ first)) fun e st H => ?_)) fun x rest' hr => ?_
  · cases e with
    | normal =>
      obtain ⟨y, h1, h2⟩ := H
      unfold qConv at h2
      refine AW.conv h2 (AW.mono (key2 y h1) fun e st H => ?_)
      cases e with
      | goto l' =>
        simp only at H
        cases hb : Nat.beq l' l with
        | false => rw [hb] at H; exact H.elim
        | true =>
          rw [hb] at H
          have e1 : l' = l := by simpa using hb
          subst e1
          obtain ⟨z, h3, _, h4⟩ := H
          unfold qConv at h4
          exact .inl ⟨⟨z, h3⟩, rfl, trivial, h4⟩
      | normal => exact H
      | ret => exact H
      | exit id => exact H
    | goto l' => exact H.elim
    | ret => exact H.elim
    | exit id => exact H.elim
  · rw [hf] at hr
    cases hr
    refine AW.mono (key x.1 x.2) fun e st H => ?_
    cases e with
    | goto l' =>
      simp only at H
      cases hb : Nat.beq l' l with
      | false => rw [hb] at H; exact H.elim
      | true =>
        rw [hb] at H
        have e1 : l' = l := by simpa using hb
        subst e1
        obtain ⟨y, h1, h2, h3⟩ := H
        unfold qConv at h3
        exact .inl ⟨⟨y, h1⟩, rfl, h2, h3⟩
    | normal => exact H
    | ret => exact H
    | exit id => exact H
def spine : Code → List Code
  | .seq a b => spine a ++ spine b
  | .skip => [.skip]
  | .label l => [.label l]
  | .region i o d => [.region i o d]
  | .cond c x y => [.cond c x y]
  | .block i c => [.block i c]
  | .loop c => [.loop c]
  | .exit i => [.exit i]
  | .scope c => [.scope c]
  | .goto l => [.goto l]
  | .ret => [.ret]
  | .rangeFunc f p a b => [.rangeFunc f p a b]
  | .refuse w => [.refuse w]
def chain : List Code → Code
  | [] => .skip
  | c :: l => .seq c (chain l)
def thenQ (N : ASt → Prop) (Q : AExit → ASt → Prop) : AExit → ASt → Prop
  | .normal, st => N st
  | e, st => Q e st
def AWs (P : Program) (B : Base) : List Code → (AExit → ASt → Prop) → ASt → Prop
  | [], Q, st => Q .normal st
  | c :: l, Q, st => AW P B c (thenQ (AWs P B l Q) Q) st
theorem AWs.mono {P : Program} {B : Base} : ∀ (l : List Code) {Q Q' : AExit → ASt → Prop} {st : ASt}, AWs P B l Q st → (∀ e st, Q e st → Q' e st) → AWs P B l Q' st
  | [], Q, Q', st, h, hq => hq _ _ h
  | c :: l, Q, Q', st, h, hq => AW.mono h fun e st H => by
      cases e with
      | normal => exact AWs.mono l H hq
      | exit id => exact hq _ _ H
      | goto l' => exact hq _ _ H
      | ret => exact hq _ _ H
theorem AWs.app {P : Program} {B : Base} : ∀ (l1 l2 : List Code) {Q : AExit → ASt → Prop} {st : ASt}, AWs P B l1 (thenQ (AWs P B l2 Q) Q) st → AWs P B (l1 ++ l2) Q st
  | [], l2, Q, st, h => h
  | c :: l1, l2, Q, st, h => AW.mono h fun e st H => by
      cases e with
      | normal => exact AWs.app l1 l2 H
      | exit id => exact H
      | goto l' => exact H
      | ret => exact H
theorem AWs.app' {P : Program} {B : Base} : ∀ (l1 l2 : List Code) {Q : AExit → ASt → Prop} {st : ASt}, AWs P B (l1 ++ l2) Q st → AWs P B l1 (thenQ (AWs P B l2 Q) Q) st
  | [], l2, Q, st, h => h
  | c :: l1, l2, Q, st, h => AW.mono h fun e st H => by
      cases e with
      | normal => exact AWs.app' l1 l2 H
      | exit id => exact H
      | goto l' => exact H
      | ret => exact H
theorem AWs.one {P : Program} {B : Base} {c : Code} {Q : AExit → ASt → Prop} {st : ASt} (h : AWs P B [c] Q st) : AW P B c Q st := AW.mono h fun e st H => by
  cases e <;> exact H
theorem AWs.spine {P : Program} {B : Base} : ∀ (c : Code) {Q : AExit → ASt → Prop} {st : ASt}, AWs P B (spine c) Q st → AW P B c Q st
  | .seq a b, Q, st, h => AW.seqC (AW.mono (AWs.spine a (AWs.app' _ _ h)) fun e st H => by
      cases e with
      | normal => exact AWs.spine b H
      | exit id => exact H
      | goto l' => exact H
      | ret => exact H)
  | .skip, Q, st, h => h.one
  | .label _, Q, st, h => h.one
  | .region .., Q, st, h => h.one
  | .cond .., Q, st, h => h.one
  | .block .., Q, st, h => h.one
  | .loop _, Q, st, h => h.one
  | .exit _, Q, st, h => h.one
  | .scope _, Q, st, h => h.one
  | .goto _, Q, st, h => h.one
  | .ret, Q, st, h => h.one
  | .rangeFunc .., Q, st, h => h.one
  | .refuse _, Q, st, h => h.one
theorem AWs.of_ev {P : Program} (hm : P.follows .mixedOrders = true) {B : Base} : ∀ (l : List Code) {Q : AExit → List AV → List Own → Prop} {sl : List AV} {h : List Own}, ev P B (chain l) Q sl h → AWs P B l (fun e st => Q e st.sl st.h) ⟨sl, h⟩
  | [], Q, sl, h, H => H
  | c :: l, Q, sl, h, H => by
    refine AW.mono (awp_sound hm c _ ⟨sl, h⟩ (ev_awp c _ _ _ H)) fun e st H => ?_
    cases e with
    | normal => exact AWs.of_ev hm l H
    | exit id => exact H
    | goto l' => exact H
    | ret => exact H
def qQ (Q : AExit → List AV → List Own → Prop) : AExit → ASt → Prop := fun e st => Q e st.sl st.h
def qAWs (P : Program) (B : Base) (L : List Code) (Q : AExit → List AV → List Own → Prop) (sl : List AV) (h : List Own) : Prop := AWs P B L (qQ Q) ⟨sl, h⟩
theorem qAWs.cut {P : Program} (hm : P.follows .mixedOrders = true) (k : Nat) {B : Base} {L L1 L2 : List Code} {c1 : Code} {Q : AExit → List AV → List Own → Prop} {sl : List AV} {h : List Own} (e1 : L.take k = L1) (e2 : L.drop k = L2) (hc : chain L1 = c1) (hk : L2.isEmpty = false) {X : Type} (F : X → List AV) (G : X → List Own) (I : X → Prop)
    (first : frcVV sl fun sl => frcOs h fun h => ev P B c1 (fun e sl h => match e with | .normal => ∃ x, I x ∧ qConv B sl h (F x) (G x) | e => Q e sl h) sl h)
    (second : ∀ x, I x → qAWs P B L2 Q (F x) (G x)) : qAWs P B L Q sl h := by
  subst e1 e2 hc
  unfold qAWs
  rw [← List.take_append_drop k L]
  simp only [frcVV_eq, frcOs_eq] at first
  refine AWs.app _ _ (AWs.mono _ (AWs.of_ev hm _ first) fun e st H => ?_)
  cases e with
  | normal =>
    obtain ⟨x, hx, hcv⟩ := H
    have h3 := second x hx
    unfold qAWs at h3
    unfold qConv at hcv
    show AWs P B (L.drop k) _ st
    cases hd : L.drop k with
    | nil => rw [hd] at hk; cases hk
    | cons a l =>
      rw [hd] at h3
      exact AW.conv hcv h3
  | exit id => exact H
  | goto l' => exact H
  | ret => exact H
theorem qAWs.fin {P : Program} (hm : P.follows .mixedOrders = true) {B : Base} {L : List Code} {c : Code} {Q : AExit → List AV → List Own → Prop} {sl : List AV} {h : List Own} (hc : chain L = c) (H : frcVV sl fun sl => frcOs h fun h => ev P B c Q sl h) : qAWs P B L Q sl h := by
  subst hc
  simp only [frcVV_eq, frcOs_eq] at H
  exact AWs.of_ev hm _ H
theorem ACallL.of_q {P : Program} {f : FuncId} {args : List AV} {L0 L1 : List Own} {res : AV} (hf : Callable P f) (H : ∀ B : Base, B.h = ofL L0 → qCall P f args L0 fun av _ _ h' => qConv B [av] h' [res] L1) : ACallL P f args L0 res L1 := by
  refine ⟨hf, fun m w vs rel hl => ?_⟩
  have H' := H ⟨m, ofL L0, w, rel⟩ rfl
  unfold qCall at H'
  obtain ⟨rd, T, res', hA, hF, hK⟩ := H'
  refine (hA.2 (ofL L0) m w vs (fun p hp => hF.1 p hp) rel hl).mono ?_
  rintro e w' ⟨v, m', rfl, rel', ev', hv⟩
  rw [← ofL_apT hF.2] at rel' ev' hv
  unfold qConv at hK
  obtain ⟨m2, h1, h2⟩ := hK m' w' ⟨#[v], []⟩ ⟨rel', fun t => by
    cases t with
    | zero => simpa using hv
    | succ t => simp; exact .val _, rfl, rfl⟩ ev'
  exact ⟨v, m2, rfl, h1.rel, h2, by simpa using h1.slots 0⟩
end Go.Proofs.Ythkjiihphdpagaa

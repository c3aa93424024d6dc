/- One kind of act, each with the same connection: the law's loop on data. Condition: lengths that an argument may have. -/
import Derived.Test.YthkjiihphdpagaaGreatAhTcpOk
namespace Go.Proofs.YthkjiihphdpagaaGreat
open Go.RowKit
set_option linter.unusedVariables false
set_option linter.unusedSimpArgs false
set_option maxRecDepth 100000
set_option maxHeartbeats 4000000

abbrev scR (c : Cn) (l : List Act) : List AV := cnR 0 c ++ [.list 0 12 (l.map (acR 0))]
theorem only_l (c : Cn) (l : List Act) (dw : Int) (hc : CnBig c) (hl : ActsLen l) : ACallL Tryz.prog 9 [.agg (scR c l), .val (.int .i64 dw)] [.perm] (.val (.bool true)) [.perm] := by
  have px := pl_bytes c.out
  have py := pl_parts c.parts
  have pz := pl_acts l
  have hlen : (l.map (acR 0)).length = l.length := by simp
  have cH := heavy16_l c l hc hl
  obtain ⟨b, hb⟩ : ∃ b, hv16 c l = b := ⟨_, rfl⟩
  rw [hb] at cH
  dsimp only [scR, cnR, cnL, List.cons_append, List.nil_append] at cH ⊢
  cases b with
  | true =>
    refine ACallL.of_ev mixed Tryz.func9 rfl (fun a w => Tryz.call9 a w) (congrArg Array.toList Tryz.results9) Tryz.ntmps9 fun B hB => ?_
    ((conv => whnf); (repeat' ((first | (with_reducible first | refine qif_n ?_ | refine qif_t ‹_› ?_ | refine qif_f ‹_› ?_) | ((with_reducible refine qif_t ?_ ?_); focus decide) | ((with_reducible refine qif_f ?_ ?_); focus decide) | (with_reducible refine And.intro (orderOk_i ?ho) ?_; (case ho => kernel_rfl)) | ((with_reducible refine qif_t ?_ ?_); focus (simp []; done)) | ((with_reducible refine qif_f ?_ ?_); focus (simp []; done)) | (with_reducible refine qif_i (fun _ => ?_) (fun _ => ?_)) | (with_reducible refine frcVs_i ?_) | (with_reducible refine frcRs_i ?_) | ((with_reducible refine qCall.pure (cH) ?_ ?_ ?_ ?_); rotate_left 3; rotate_left; exact trivial; exact plT; exact plT)) <;> (conv => whnf))))
    all_goals (refine qConv.of hB [] [(0, 0)] [] (by rfl) ?_; focus ((conv => whnf); (repeat (refine And.intro ?_ ?_; rotate_left; (conv => whnf))); exact trivial; all_goals (try exact andT)))
  | false =>
    obtain ⟨h1, h2, h3, h4⟩ := hv16_no hb
    refine ACallL.of_ev mixed Tryz.func9 rfl (fun a w => Tryz.call9 a w) (congrArg Array.toList Tryz.results9) Tryz.ntmps9 fun B hB => ?_
    ((conv => whnf); (repeat' ((first | (with_reducible first | refine qif_n ?_ | refine qif_t ‹_› ?_ | refine qif_f ‹_› ?_) | ((with_reducible refine qif_t ?_ ?_); focus decide) | ((with_reducible refine qif_f ?_ ?_); focus decide) | (with_reducible refine And.intro (orderOk_i ?ho) ?_; (case ho => kernel_rfl)) | ((with_reducible refine qif_t ?_ ?_); focus (simp []; done)) | ((with_reducible refine qif_f ?_ ?_); focus (simp []; done)) | (with_reducible refine qif_i (fun _ => ?_) (fun _ => ?_)) | (with_reducible refine frcVs_i ?_) | (with_reducible refine frcRs_i ?_) | ((with_reducible refine qCall.pure (cH) ?_ ?_ ?_ ?_); rotate_left 3; rotate_left; exact trivial; exact plT; exact plT)) <;> (conv => whnf))))
    refine qAW.loopE mixed (X := Nat) (fun k => slotsOf 39 [(1, .val (.int .i64 dw)), (2, .ptr 1 0 0), (5, .val (.int .i64 k))]) (fun k => [.perm, .live ⟨17, 32, [scR c l]⟩]) (fun k => k ≤ l.length) (fun k => l.length - k) 0 (Nat.zero_le _) ?_ ?_
    · (refine qConv.of hB [(1, 1)] [(0, 0)] [] (by rfl) ?_; focus ((conv => whnf); (repeat (refine And.intro ?_ ?_; rotate_left; (conv => whnf))); exact trivial; all_goals (try exact andT)))
      all_goals first | rfl | skip
    · rintro E k hk hE
      have w := IntWalk.i64_in (k + 1) (by omega)
      dsimp only [scR, cnR, cnL, List.cons_append, List.nil_append]
      by_cases hlt : k < l.length
      · by_cases h12 : (k : Int) < 12
        · obtain ⟨a, hxk⟩ : ∃ p, l[k]? = some p := ⟨_, List.getElem?_eq_getElem hlt⟩
          have hx := h4 _ (List.mem_of_getElem? hxk)
          have hrow : (l.map (acR 0))[(k : Int).toNat]? = some (acR 0 a) := by simp [hxk]
          obtain ⟨a', ha'⟩ : ∃ r : Act, { a with dw := dw } = r := ⟨_, rfl⟩
          have e1 : a'.s = a.s := by rw [← ha']
          have e2 : a'.b = a.b := by rw [← ha']
          have pza := pl_bytes a.s.data
          have pzb := pl_bytes a.b
          by_cases he : stepE c a' = 0
          · have cS := stepOk_l c a' h1 h2 (by rw [e1]; exact hx.1) (by rw [e2]; exact hx.2) he
            obtain ⟨y, hy⟩ : ∃ r, stepS c a' = r := ⟨_, rfl⟩
            rw [hy] at cS
            subst ha'
            dsimp only [cnR, cnL, acR, acL] at cS hrow
            subst hE
            ((conv => whnf); (repeat' ((first | (with_reducible first | refine qif_n ?_ | refine qif_t ‹_› ?_ | refine qif_f ‹_› ?_) | ((with_reducible refine qif_t ?_ ?_); focus decide) | ((with_reducible refine qif_f ?_ ?_); focus decide) | (with_reducible refine And.intro (orderOk_i ?ho) ?_; (case ho => kernel_rfl)) | ((with_reducible refine qif_t ?_ ?_); focus (simp [hlt, h12]; done)) | ((with_reducible refine qif_f ?_ ?_); focus (simp [hlt, h12]; done)) | (with_reducible refine qif_i (fun _ => ?_) (fun _ => ?_)) | (with_reducible refine frcVs_i ?_) | (with_reducible refine frcRs_i ?_) | (refine qCase_i (idxL rfl rfl rfl rfl rfl rfl (by omega) hrow) ?_) | (((with_reducible refine qCall.of (cS) [] [(0, 0)] [] [(1, 3), (2, 4), (3, 5)] [(3, .uniq), (4, .uniq), (5, .uniq)] (.tup [.agg (cnL (bL 3 y.c.out) (.list 4 2 (y.c.parts.map (prt 5))) y.c), .val (.bool true)]) ?hk ?_); (case hk => rfl); (conv => whnf); (repeat (refine And.intro ?_ ?_; (focus (exact sideT)); (conv => whnf))); (fail_if_success (with_reducible refine And.intro (eqv_i ?_) ?_)); (fail_if_success (with_reducible refine And.intro (ren_i ?_) ?_))))) <;> (conv => whnf))))
            refine ⟨k + 1, by omega, by omega, ?_⟩
            (refine qConv.of hB [(1, 1)] [(0, 0)] [] (by rfl) ?_; focus ((conv => whnf); (repeat (refine And.intro ?_ ?_; rotate_left; (conv => whnf))); exact trivial; all_goals (try exact andT)))
            all_goals first | rfl | (simp [w]; done) | skip
          · have cS := stepNo_l c a' h1 h2 (by rw [e1]; exact hx.1) (by rw [e2]; exact hx.2) he
            subst ha'
            dsimp only [cnR, cnL, acR, acL] at cS hrow
            subst hE
            ((conv => whnf); (repeat' ((first | (with_reducible first | refine qif_n ?_ | refine qif_t ‹_› ?_ | refine qif_f ‹_› ?_) | ((with_reducible refine qif_t ?_ ?_); focus decide) | ((with_reducible refine qif_f ?_ ?_); focus decide) | (with_reducible refine And.intro (orderOk_i ?ho) ?_; (case ho => kernel_rfl)) | ((with_reducible refine qif_t ?_ ?_); focus (simp [hlt, h12]; done)) | ((with_reducible refine qif_f ?_ ?_); focus (simp [hlt, h12]; done)) | (with_reducible refine qif_i (fun _ => ?_) (fun _ => ?_)) | (with_reducible refine frcVs_i ?_) | (with_reducible refine frcRs_i ?_) | (refine qCase_i (idxL rfl rfl rfl rfl rfl rfl (by omega) hrow) ?_) | (((with_reducible refine qCall.of (cS) [] [(0, 0)] [] [] [] (.tup [.agg (cnR 0 c), .val (.bool true)]) ?hk ?_); (case hk => rfl); (conv => whnf); (repeat (refine And.intro ?_ ?_; (focus (exact sideT)); (conv => whnf))); (fail_if_success (with_reducible refine And.intro (eqv_i ?_) ?_)); (fail_if_success (with_reducible refine And.intro (ren_i ?_) ?_))))) <;> (conv => whnf))))
            refine ⟨k + 1, by omega, by omega, ?_⟩
            (refine qConv.of hB [(1, 1)] [(0, 0)] [] (by rfl) ?_; focus ((conv => whnf); (repeat (refine And.intro ?_ ?_; rotate_left; (conv => whnf))); exact trivial; all_goals (try exact andT)))
            all_goals first | rfl | (simp [w]; done) | skip
        · subst hE
          ((conv => whnf); (repeat' ((first | (with_reducible first | refine qif_n ?_ | refine qif_t ‹_› ?_ | refine qif_f ‹_› ?_) | ((with_reducible refine qif_t ?_ ?_); focus decide) | ((with_reducible refine qif_f ?_ ?_); focus decide) | (with_reducible refine And.intro (orderOk_i ?ho) ?_; (case ho => kernel_rfl)) | ((with_reducible refine qif_t ?_ ?_); focus (simp [hlt, h12]; done)) | ((with_reducible refine qif_f ?_ ?_); focus (simp [hlt, h12]; done)) | (with_reducible refine qif_i (fun _ => ?_) (fun _ => ?_)) | (with_reducible refine frcVs_i ?_) | (with_reducible refine frcRs_i ?_) | ((with_reducible refine qCall.pure (wakes16_l) ?_ ?_ ?_ ?_); rotate_left 3; rotate_left; exact trivial; exact plT; exact plT)) <;> (conv => whnf))))
          all_goals (refine qConv.of hB [] [(0, 0)] [] (by rfl) ?_; focus ((conv => whnf); (repeat (refine And.intro ?_ ?_; rotate_left; (conv => whnf))); exact trivial; all_goals (try exact andT)))
      · subst hE
        ((conv => whnf); (repeat' ((first | (with_reducible first | refine qif_n ?_ | refine qif_t ‹_› ?_ | refine qif_f ‹_› ?_) | ((with_reducible refine qif_t ?_ ?_); focus decide) | ((with_reducible refine qif_f ?_ ?_); focus decide) | (with_reducible refine And.intro (orderOk_i ?ho) ?_; (case ho => kernel_rfl)) | ((with_reducible refine qif_t ?_ ?_); focus (simp [hlt]; done)) | ((with_reducible refine qif_f ?_ ?_); focus (simp [hlt]; done)) | (with_reducible refine qif_i (fun _ => ?_) (fun _ => ?_)) | (with_reducible refine frcVs_i ?_) | (with_reducible refine frcRs_i ?_) | ((with_reducible refine qCall.pure (wakes16_l) ?_ ?_ ?_ ?_); rotate_left 3; rotate_left; exact trivial; exact plT; exact plT)) <;> (conv => whnf))))
        all_goals (refine qConv.of hB [] [(0, 0)] [] (by rfl) ?_; focus ((conv => whnf); (repeat (refine And.intro ?_ ?_; rotate_left; (conv => whnf))); exact trivial; all_goals (try exact andT)))
theorem opens_law (c : Cn) (l : List Act) (hc : CnBig c) (hl : ActsLen l) : ACallL Tryz.prog 8 [.agg (scR c l)] [.perm] (.val (.bool true)) [.perm] := by
  have px := pl_bytes c.out
  have py := pl_parts c.parts
  have pz := pl_acts l
  have cO := only_l c l 13 hc hl
  dsimp only [scR, cnR, cnL, List.cons_append, List.nil_append] at cO ⊢
  refine ACallL.of_ev mixed Tryz.func8 rfl (fun a w => Tryz.call8 a w) (congrArg Array.toList Tryz.results8) Tryz.ntmps8 fun B hB => ?_
  ((conv => whnf); (repeat' ((first | (with_reducible first | refine qif_n ?_ | refine qif_t ‹_› ?_ | refine qif_f ‹_› ?_) | ((with_reducible refine qif_t ?_ ?_); focus decide) | ((with_reducible refine qif_f ?_ ?_); focus decide) | (with_reducible refine And.intro (orderOk_i ?ho) ?_; (case ho => kernel_rfl)) | ((with_reducible refine qif_t ?_ ?_); focus (simp []; done)) | ((with_reducible refine qif_f ?_ ?_); focus (simp []; done)) | (with_reducible refine qif_i (fun _ => ?_) (fun _ => ?_)) | (with_reducible refine frcVs_i ?_) | (with_reducible refine frcRs_i ?_) | ((with_reducible refine qCall.pure (cO) ?_ ?_ ?_ ?_); rotate_left 3; rotate_left; exact trivial; exact plT; exact plT)) <;> (conv => whnf))))
  all_goals (refine qConv.of hB [] [(0, 0)] [] (by rfl) ?_; focus ((conv => whnf); (repeat (refine And.intro ?_ ?_; rotate_left; (conv => whnf))); exact trivial; all_goals (try exact andT)))
end Go.Proofs.YthkjiihphdpagaaGreat

/- An act that is done, on both: on data. Conditions: lengths. -/
import Derived.Test.YtoknaaoioglapaaGreatPkAN
namespace Go.Proofs.YtoknaaoioglapaaGreat
open Go.RowKit
set_option linter.unusedVariables false
set_option linter.unusedSimpArgs false
set_option maxRecDepth 100000
set_option maxHeartbeats 4000000
theorem pumpGo_told : ∀ (k : Nat) (y : Stp), (pumpGo k y).told = y.told
  | 0, y => rfl
  | k + 1, y => by
    rw [pumpGo]
    split
    · rfl
    · rw [pumpGo_told k]; rfl
theorem pump_told (y : Stp) : y.pump.told = y.told := by
  have p2 : ∀ z : Stp, z.pump2.told = z.told := fun z => by unfold Stp.pump2; split <;> rfl
  have p3 : ∀ z : Stp, z.pump3.told = z.told := fun z => by unfold Stp.pump3; split <;> rfl
  unfold Stp.pump
  rw [p3, p2, pumpGo_told]
theorem sends_told (c : Cn) (xs : List Int) : (c.sends xs).told = [] := pump_told _
theorem closes_told (c : Cn) : c.closes.told = [] := by
  unfold Cn.closes
  cases c.talks
  · rfl
  · exact pump_told _
theorem aborts_told (c : Cn) : c.aborts.told = [] := by
  unfold Cn.aborts Stp.abort
  exact bif_p (p := fun r : Stp => r.told = []) (fun _ => rfl) (fun _ => rfl)
theorem again_told (y : Stp) : y.again.told = y.told := by
  unfold Stp.again
  exact bif_p (p := fun r : Stp => r.told = y.told) (fun _ => rfl) (fun _ => bif_p (p := fun r : Stp => r.told = y.told) (fun _ => rfl) (fun _ => bif_p (p := fun r : Stp => r.told = y.told) (fun _ => rfl) (fun _ => bif_p (p := fun r : Stp => r.told = y.told) (fun _ => rfl) (fun _ => rfl))))
theorem ticks_told (c : Cn) : c.ticks.told = [] := by
  unfold Cn.ticks
  exact bif_p (p := fun r : Stp => r.told = []) (fun _ => bif_p (p := fun r : Stp => r.told = []) (fun _ => rfl) (fun _ => bif_p (p := fun r : Stp => r.told = []) (fun _ => aborts_told _) (fun _ => again_told _))) (fun _ => rfl)
structure StLen (y : Stp) : Prop where
  c : CnLen y.c
  out : y.out.length ≤ 8200
  data : ∀ m ∈ y.out, m.data.length ≤ 536
  told : y.told.length ≤ 2048
theorem StI.lens {c : Cn} {y : Stp} (h : StI c 8200 y) (hI : CnI y.c) : StLen y := ⟨hI.cnLen, h.cnt, fun m hm => (h.segs m hm).len, h.told⟩
theorem errB_t {c : Cn} {e : Int} (h : errB c e = 0) : cnB c = true ∧ e = 0 := by
  unfold errB at h
  cases hc : cnB c <;> rw [hc] at h
  · exact absurd h (by simp)
  · exact ⟨rfl, h⟩
theorem fits_t {c : Cn} {m : Sg} (h : fitsB c m = true) : sgB m = true := by
  unfold fitsB at h
  rw [Bool.and_eq_true] at h
  exact h.1
theorem stepS_len {c : Cn} {a : Act} (h : stepE c a = 0) : StLen (stepS c a) ∧ CnI (stepS c a).c := by
  unfold stepE at h
  unfold stepS
  split
  · rename_i hk
    rw [if_pos hk] at h
    obtain ⟨h1, h2⟩ := errB_t h
    obtain ⟨a, b⟩ := send_I ((cnB_iff c).1 h1) h2
    exact ⟨b.lens a, a⟩
  · rename_i hk
    rw [if_neg hk] at h
    split
    · rename_i h8
      rw [if_pos h8] at h
      obtain ⟨h1, h2⟩ := errB_t h
      obtain ⟨a, b⟩ := close_I ((cnB_iff c).1 h1) h2
      exact ⟨b.lens a, a⟩
    · rename_i h8
      rw [if_neg h8] at h
      split
      · rename_i h9
        rw [if_pos (.inl h9)] at h
        obtain ⟨h1, h2⟩ := errB_t h
        obtain ⟨a, b⟩ := abort_I ((cnB_iff c).1 h1)
        exact ⟨b.lens a, a⟩
      · rename_i h9
        split
        · rename_i h10
          rw [if_pos (.inr h10)] at h
          obtain ⟨h1, h2⟩ := errB_t h
          obtain ⟨a, b⟩ := tick_I ((cnB_iff c).1 h1)
          exact ⟨b.lens a, a⟩
        · rename_i h10
          rw [if_neg (by omega)] at h
          split
          · rename_i h13
            rw [if_pos h13] at h
            cases ho : openB a.n a.m a.s.ack a.s with
            | false => rw [ho] at h; exact absurd h (by decide)
            | true =>
              obtain ⟨a, b⟩ := open_I ho
              exact ⟨b.lens a, a⟩
          · rename_i h13
            rw [if_neg h13] at h
            cases ho : (cnB c && fitsB c (fitS c a)) with
            | false => rw [ho] at h; exact absurd h (by decide)
            | true =>
              rw [Bool.and_eq_true] at ho
              have hI := (cnB_iff c).1 ho.1
              have hm := fits_t ho.2
              have a := take_I (x := c.start) hI hm
              exact ⟨(take_S hI hm).lens a, a⟩
theorem dt_AhTcpOk_ROWO {p : Prop} (h : p := by first | ((first | rfl | exact segs_gg rfl _ | exact segs_ll rfl _ | exact bytes_cells _ | exact parts_gg rfl _ | exact parts_ll rfl _ | (refine RowsRen.one ?_; (repeat (refine Cells.cons ?_ ?_; focus (first | exact .val _ | exact Ren.gg rfl _ | exact Ren.ll rfl _ | exact Ren.pgl rfl rfl _ | exact Ren.pll rfl rfl _ | exact Ren.sll rfl rfl _ | exact Ren.vnil _ _ | exact Ren.vgnil _ _ | fail))); exact Cells.nil)); done) | fail) : p := h
theorem stepOk_l (c : Cn) (a : Act) (hc : CnLen c) (ho : c.out.length ≤ 30000) (ha : a.s.data.length ≤ 30000) (hb : a.b.length ≤ 30000) (he : stepE c a = 0) :
    ACallL Tryz.prog 19 [.agg (cnR 0 c), .agg (acR 0 a)] [.perm] (.tup [.agg (cnL (bL 1 (stepS c a).c.out) (.list 2 2 ((stepS c a).c.parts.map (prt 3))) (stepS c a).c), .val (.bool true)]) [.perm, .uniq, .uniq, .uniq] := by
  have px := pl_bytes c.out
  have py := pl_parts c.parts
  have pz := pl_bytes a.s.data
  have pb := pl_bytes a.b
  have cC := copyConn_l c hc
  have cM := refConn_l c hc
  have cE := eqConn_l c c hc
  rw [decide_eq_true (rfl : c = c)] at cE
  have cY := copyBytes_l a.b (by omega)
  have cS := copySeg_l (fitS c a) (by rw [fitS_data]; omega)
  have cF := fit_l c a hc ha
  have cEq := eqSeg_l (fitS c a) (fitS c a) (by rw [fitS_data]; omega)
  rw [decide_eq_true (rfl : fitS c a = fitS c a)] at cEq
  have spB := spBytes_l a.b (by omega)
  have spS := spBytes_l (fitS c a).data (by rw [fitS_data]; omega)
  have pzf := pl_bytes (fitS c a).data
  have bk := bring_bd a.dw 14 (by decide)
  have cW := bring_l a.dw 14 (by decide) (by decide)
  obtain ⟨hy, hyI⟩ := stepS_len he
  unfold stepE at he
  obtain ⟨y, hyd⟩ : ∃ r, stepS c a = r := ⟨_, rfl⟩
  rw [hyd] at hy ⊢
  unfold stepS at hyd
  obtain ⟨k, hk⟩ : ∃ k, bring a.dw 14 = k := ⟨_, rfl⟩
  rw [hk] at he bk cW hyd
  obtain ⟨may, hm⟩ : ∃ b, cnB c = b := ⟨_, rfl⟩
  rw [hm] at cM
  have pyo := pl_bytes y.c.out
  have pyp := pl_parts y.c.parts
  have pys := pl_segs y.out
  have cEy := eqConn_l y.c y.c hy.c
  rw [decide_eq_true (rfl : y.c = y.c)] at cEy
  have cG := eqSegs_l y.out (by have := hy.out; omega) (fun m hm => by have := hy.data m hm; omega)
  have spC := spConn_l y.c hy.c
  have spG := spSegs_l y.out (by have := hy.out; omega) (fun m hm => by have := hy.data m hm; omega)
  have cT := eqBytes_l y.told y.told (by have := hy.told; omega)
  rw [beq_self_eq_true] at cT
  have spT := spBytes_l y.told (by have := hy.told; omega)
  dsimp only [cnR, cnG, cnL, acR, acL, sgR, sgG, sgL] at cC cM cE cS cF cEq cEy spC ⊢
  refine ACallL.of_AWs Tryz.func19 rfl (fun a w => Tryz.call19 a w) (congrArg Array.toList Tryz.results19) Tryz.ntmps19 (by simp only [spine, List.cons_append, List.nil_append, List.append_assoc]; rfl) fun B hB => ?_
  refine qAWs.cut mixed 11 (by simp only [List.take_succ_cons, List.take_zero]; rfl) (by simp only [List.drop_succ_cons, List.drop_zero]; rfl) (by simp only [chain]; rfl) rfl (X := List Int) (fun t => slotsOf 212 [(2, .ptr 1 0 0), (4, .ptr 2 0 0), (5, .val (.bool false)), (6, .ptr 3 0 0), (8, .ptr 8 0 0), (9, .val (.int .i64 0)), (10, .ptr 4 0 0), (11, .glist 18 7 (y.out.map (sgG 19))), (12, gL 20 t), (13, .val (.int .i64 0))])
    (fun _ => [.perm, cnO (cnR 0 c), cnO zC, cnO (cnG 5 6 7 c), cnO (cnG 15 16 17 y.c), .uniq, .uniq, .uniq, rsO (rsN 9 10 11 12 13 14 y), .uniq, .uniq, .uniq, .uniq, .uniq, .uniq, .uniq, .uniq, .uniq, .uniq, .uniq, .uniq]) (fun t => t = y.told) ?_ ?_
  · rcases (by omega : k = 6 ∨ k = 7 ∨ k = 8 ∨ k = 9 ∨ k = 10 ∨ k = 11 ∨ k = 12 ∨ k = 13 ∨ (0 ≤ k ∧ k ≤ 5)) with h | h | h | h | h | h | h | h | h
    · subst h
      rw [if_pos (Or.inl rfl)] at he hyd
      obtain ⟨h1, h2⟩ := errB_t he
      have h3 : may = true := by rw [← hm]; exact h1
      subst h3
      have cP := tcpSend_l c a.b hm h2
      have cR := rSend_l c a.b hm h2
      have hto := sends_told c a.b
      rw [hyd] at cP cR hto
      dsimp only [cnR, cnG, cnL, rsN, spL] at cP cR
      ((conv => whnf); (repeat' ((first | (with_reducible first | refine qif_n ?_ | refine qif_t ‹_› ?_ | refine qif_f ‹_› ?_) | ((with_reducible refine qif_t ?_ ?_); focus decide) | ((with_reducible refine qif_f ?_ ?_); focus decide) | (with_reducible refine And.intro (orderOk_i ?ho) ?_; (case ho => kernel_rfl)) | (with_reducible first | refine qif_i (fun _ => ?_) (fun _ => ?_) | refine frcVs_i ?_ | refine frcRs_i ?_) | ((with_reducible refine qCall.pure (cM) ?_ ?_ ?_ ?_); rotate_left 4; exact trivial; exact plT; exact plT) | ((with_reducible refine qCall.pure (cW) ?_ ?_ ?_ ?_); rotate_left 4; exact trivial; exact plT; exact plT) | (((with_reducible refine qCall.of (cR) [] [(0, 0)] [] [(1, 9), (2, 10), (3, 11), (4, 12), (5, 13), (6, 14), (7, 15)] [(9, rsO (rsN 10 11 12 13 14 15 y)), (10, .uniq), (11, .uniq), (12, .uniq), (13, .uniq), (14, .uniq), (15, .uniq)] (.tup [.ptr 9 0 0, .val (.int .i64 0)]) ?hk ?_); (case hk => rfl); (conv => whnf); (repeat (refine And.intro ?_ ?_; exact sideT; (conv => whnf))); (fail_if_success (with_reducible first | refine And.intro (eqv_i ?_) ?_ | refine And.intro (ren_i ?_) ?_)))) | (((with_reducible refine qCall.of (cC) [] [(0, 0)] [] [(1, 4), (2, 5), (3, 6)] [(4, .uniq), (5, .uniq), (6, .uniq)] (.agg (cnG 4 5 6 c)) ?hk ?_); (case hk => rfl); (conv => whnf); (repeat (refine And.intro ?_ ?_; exact sideT; (conv => whnf))); (fail_if_success (with_reducible first | refine And.intro (eqv_i ?_) ?_ | refine And.intro (ren_i ?_) ?_)))) | (((with_reducible refine qCall.fresh (fun r => gL r a.b) (cY) [(0, 0)] [] ?hk ?_); (case hk => rfl); (conv => whnf); (repeat (refine And.intro ?_ ?_; exact sideT; (conv => whnf))); (fail_if_success (with_reducible first | refine And.intro (eqv_i ?_) ?_ | refine And.intro (ren_i ?_) ?_)))) | (((with_reducible refine qCall.of (cP) [] [(0, 0), (0, 4), (0, 5), (0, 6), (0, 16)] [] [(1, 17), (2, 18), (3, 19), (4, 20), (5, 21)] [(17, .uniq), (18, .uniq), (19, .uniq), (20, .uniq), (21, .uniq)] (.tup [.agg (cnG 17 18 19 y.c), .glist 20 7 (y.out.map (sgG 21)), .val (.int .i64 0)]) ?hk ?_); (case hk => rfl); (conv => whnf); (repeat (refine And.intro ?_ ?_; exact sideT; (conv => whnf))); (fail_if_success (with_reducible first | refine And.intro (eqv_i ?_) ?_ | refine And.intro (ren_i ?_) ?_)))) | (((with_reducible refine qCall.of (spB) [] [(0, 0), (1, 16)] [] [] [(16, .dead)] (.tup []) ?hk ?_); (case hk => rfl); (conv => whnf); (repeat (refine And.intro ?_ ?_; exact sideT; (conv => whnf))); (fail_if_success (with_reducible first | refine And.intro (eqv_i ?_) ?_ | refine And.intro (ren_i ?_) ?_))))) <;> (conv => whnf))))
      all_goals as_aux_lemma =>
        refine ⟨[], hto.symm, ?_⟩
        (refine qConv.of hB [(1, 1), (3, 2), (7, 3), (8, 4), (9, 8)] [(0, 0), (4, 5), (5, 6), (6, 7), (10, 9), (11, 10), (12, 11), (13, 12), (14, 13), (15, 14), (17, 15), (18, 16), (19, 17), (20, 18), (21, 19)] [] (by rfl) ?_; focus ((conv => whnf); (repeat (refine And.intro ?_ ?_; rotate_left; (conv => whnf))); exact trivial; all_goals (try exact andT)))
        all_goals (try exact dt_AhTcpOk_ROWO)
    · subst h
      rw [if_pos (Or.inr rfl)] at he hyd
      obtain ⟨h1, h2⟩ := errB_t he
      have h3 : may = true := by rw [← hm]; exact h1
      subst h3
      have cP := tcpSend_l c a.b hm h2
      have cR := rSend_l c a.b hm h2
      have hto := sends_told c a.b
      rw [hyd] at cP cR hto
      dsimp only [cnR, cnG, cnL, rsN, spL] at cP cR
      ((conv => whnf); (repeat' ((first | (with_reducible first | refine qif_n ?_ | refine qif_t ‹_› ?_ | refine qif_f ‹_› ?_) | ((with_reducible refine qif_t ?_ ?_); focus decide) | ((with_reducible refine qif_f ?_ ?_); focus decide) | (with_reducible refine And.intro (orderOk_i ?ho) ?_; (case ho => kernel_rfl)) | (with_reducible first | refine qif_i (fun _ => ?_) (fun _ => ?_) | refine frcVs_i ?_ | refine frcRs_i ?_) | ((with_reducible refine qCall.pure (cM) ?_ ?_ ?_ ?_); rotate_left 4; exact trivial; exact plT; exact plT) | ((with_reducible refine qCall.pure (cW) ?_ ?_ ?_ ?_); rotate_left 4; exact trivial; exact plT; exact plT) | (((with_reducible refine qCall.of (cR) [] [(0, 0)] [] [(1, 9), (2, 10), (3, 11), (4, 12), (5, 13), (6, 14), (7, 15)] [(9, rsO (rsN 10 11 12 13 14 15 y)), (10, .uniq), (11, .uniq), (12, .uniq), (13, .uniq), (14, .uniq), (15, .uniq)] (.tup [.ptr 9 0 0, .val (.int .i64 0)]) ?hk ?_); (case hk => rfl); (conv => whnf); (repeat (refine And.intro ?_ ?_; exact sideT; (conv => whnf))); (fail_if_success (with_reducible first | refine And.intro (eqv_i ?_) ?_ | refine And.intro (ren_i ?_) ?_)))) | (((with_reducible refine qCall.of (cC) [] [(0, 0)] [] [(1, 4), (2, 5), (3, 6)] [(4, .uniq), (5, .uniq), (6, .uniq)] (.agg (cnG 4 5 6 c)) ?hk ?_); (case hk => rfl); (conv => whnf); (repeat (refine And.intro ?_ ?_; exact sideT; (conv => whnf))); (fail_if_success (with_reducible first | refine And.intro (eqv_i ?_) ?_ | refine And.intro (ren_i ?_) ?_)))) | (((with_reducible refine qCall.fresh (fun r => gL r a.b) (cY) [(0, 0)] [] ?hk ?_); (case hk => rfl); (conv => whnf); (repeat (refine And.intro ?_ ?_; exact sideT; (conv => whnf))); (fail_if_success (with_reducible first | refine And.intro (eqv_i ?_) ?_ | refine And.intro (ren_i ?_) ?_)))) | (((with_reducible refine qCall.of (cP) [] [(0, 0), (0, 4), (0, 5), (0, 6), (0, 16)] [] [(1, 17), (2, 18), (3, 19), (4, 20), (5, 21)] [(17, .uniq), (18, .uniq), (19, .uniq), (20, .uniq), (21, .uniq)] (.tup [.agg (cnG 17 18 19 y.c), .glist 20 7 (y.out.map (sgG 21)), .val (.int .i64 0)]) ?hk ?_); (case hk => rfl); (conv => whnf); (repeat (refine And.intro ?_ ?_; exact sideT; (conv => whnf))); (fail_if_success (with_reducible first | refine And.intro (eqv_i ?_) ?_ | refine And.intro (ren_i ?_) ?_)))) | (((with_reducible refine qCall.of (spB) [] [(0, 0), (1, 16)] [] [] [(16, .dead)] (.tup []) ?hk ?_); (case hk => rfl); (conv => whnf); (repeat (refine And.intro ?_ ?_; exact sideT; (conv => whnf))); (fail_if_success (with_reducible first | refine And.intro (eqv_i ?_) ?_ | refine And.intro (ren_i ?_) ?_))))) <;> (conv => whnf))))
      all_goals as_aux_lemma =>
        refine ⟨[], hto.symm, ?_⟩
        (refine qConv.of hB [(1, 1), (3, 2), (7, 3), (8, 4), (9, 8)] [(0, 0), (4, 5), (5, 6), (6, 7), (10, 9), (11, 10), (12, 11), (13, 12), (14, 13), (15, 14), (17, 15), (18, 16), (19, 17), (20, 18), (21, 19)] [] (by rfl) ?_; focus ((conv => whnf); (repeat (refine And.intro ?_ ?_; rotate_left; (conv => whnf))); exact trivial; all_goals (try exact andT)))
        all_goals (try exact dt_AhTcpOk_ROWO)
    · subst h
      rw [if_neg (by decide), if_pos rfl] at he hyd
      obtain ⟨h1, h2⟩ := errB_t he
      have h3 : may = true := by rw [← hm]; exact h1
      subst h3
      have cP := tcpClose_l c hm h2
      have cR := rClose_l c hm h2
      have hto := closes_told c
      rw [hyd] at cP cR hto
      dsimp only [cnR, cnG, cnL, rsN, spL] at cP cR
      ((conv => whnf); (repeat' ((first | (with_reducible first | refine qif_n ?_ | refine qif_t ‹_› ?_ | refine qif_f ‹_› ?_) | ((with_reducible refine qif_t ?_ ?_); focus decide) | ((with_reducible refine qif_f ?_ ?_); focus decide) | (with_reducible refine And.intro (orderOk_i ?ho) ?_; (case ho => kernel_rfl)) | (with_reducible first | refine qif_i (fun _ => ?_) (fun _ => ?_) | refine frcVs_i ?_ | refine frcRs_i ?_) | ((with_reducible refine qCall.pure (cM) ?_ ?_ ?_ ?_); rotate_left 4; exact trivial; exact plT; exact plT) | ((with_reducible refine qCall.pure (cW) ?_ ?_ ?_ ?_); rotate_left 4; exact trivial; exact plT; exact plT) | (((with_reducible refine qCall.of (cR) [] [(0, 0)] [] [(1, 9), (2, 10), (3, 11), (4, 12), (5, 13), (6, 14), (7, 15)] [(9, rsO (rsN 10 11 12 13 14 15 y)), (10, .uniq), (11, .uniq), (12, .uniq), (13, .uniq), (14, .uniq), (15, .uniq)] (.tup [.ptr 9 0 0, .val (.int .i64 0)]) ?hk ?_); (case hk => rfl); (conv => whnf); (repeat (refine And.intro ?_ ?_; exact sideT; (conv => whnf))); (fail_if_success (with_reducible first | refine And.intro (eqv_i ?_) ?_ | refine And.intro (ren_i ?_) ?_)))) | (((with_reducible refine qCall.of (cC) [] [(0, 0)] [] [(1, 4), (2, 5), (3, 6)] [(4, .uniq), (5, .uniq), (6, .uniq)] (.agg (cnG 4 5 6 c)) ?hk ?_); (case hk => rfl); (conv => whnf); (repeat (refine And.intro ?_ ?_; exact sideT; (conv => whnf))); (fail_if_success (with_reducible first | refine And.intro (eqv_i ?_) ?_ | refine And.intro (ren_i ?_) ?_)))) | (((with_reducible refine qCall.of (cP) [] [(0, 0), (0, 4), (0, 5), (0, 6)] [] [(1, 16), (2, 17), (3, 18), (4, 19), (5, 20)] [(16, .uniq), (17, .uniq), (18, .uniq), (19, .uniq), (20, .uniq)] (.tup [.agg (cnG 16 17 18 y.c), .glist 19 7 (y.out.map (sgG 20)), .val (.int .i64 0)]) ?hk ?_); (case hk => rfl); (conv => whnf); (repeat (refine And.intro ?_ ?_; exact sideT; (conv => whnf))); (fail_if_success (with_reducible first | refine And.intro (eqv_i ?_) ?_ | refine And.intro (ren_i ?_) ?_))))) <;> (conv => whnf))))
      all_goals as_aux_lemma =>
        refine ⟨[], hto.symm, ?_⟩
        (refine qConv.of hB [(1, 1), (3, 2), (7, 3), (8, 4), (9, 8)] [(0, 0), (4, 5), (5, 6), (6, 7), (10, 9), (11, 10), (12, 11), (13, 12), (14, 13), (15, 14), (16, 15), (17, 16), (18, 17), (19, 18), (20, 19)] [] (by rfl) ?_; focus ((conv => whnf); (repeat (refine And.intro ?_ ?_; rotate_left; (conv => whnf))); exact trivial; all_goals (try exact andT)))
        all_goals (try exact dt_AhTcpOk_ROWO)
    · subst h
      rw [if_neg (by decide), if_neg (by decide), if_pos (by decide)] at he
      rw [if_neg (by decide), if_neg (by decide), if_pos rfl] at hyd
      obtain ⟨h1, -⟩ := errB_t he
      have h2 : may = true := by rw [← hm]; exact h1
      subst h2
      have cP := tcpAbort_l c hm
      have cR := rAbort_l c hm
      have hto := aborts_told c
      rw [hyd] at cP cR hto
      dsimp only [cnR, cnG, cnL, rsN, spL] at cP cR
      ((conv => whnf); (repeat' ((first | (with_reducible first | refine qif_n ?_ | refine qif_t ‹_› ?_ | refine qif_f ‹_› ?_) | ((with_reducible refine qif_t ?_ ?_); focus decide) | ((with_reducible refine qif_f ?_ ?_); focus decide) | (with_reducible refine And.intro (orderOk_i ?ho) ?_; (case ho => kernel_rfl)) | (with_reducible first | refine qif_i (fun _ => ?_) (fun _ => ?_) | refine frcVs_i ?_ | refine frcRs_i ?_) | ((with_reducible refine qCall.pure (cM) ?_ ?_ ?_ ?_); rotate_left 4; exact trivial; exact plT; exact plT) | ((with_reducible refine qCall.pure (cW) ?_ ?_ ?_ ?_); rotate_left 4; exact trivial; exact plT; exact plT) | (((with_reducible refine qCall.of (cR) [] [(0, 0)] [] [(1, 9), (2, 10), (3, 11), (4, 12), (5, 13), (6, 14), (7, 15)] [(9, rsO (rsN 10 11 12 13 14 15 y)), (10, .uniq), (11, .uniq), (12, .uniq), (13, .uniq), (14, .uniq), (15, .uniq)] (.ptr 9 0 0) ?hk ?_); (case hk => rfl); (conv => whnf); (repeat (refine And.intro ?_ ?_; exact sideT; (conv => whnf))); (fail_if_success (with_reducible first | refine And.intro (eqv_i ?_) ?_ | refine And.intro (ren_i ?_) ?_)))) | (((with_reducible refine qCall.of (cC) [] [(0, 0)] [] [(1, 4), (2, 5), (3, 6)] [(4, .uniq), (5, .uniq), (6, .uniq)] (.agg (cnG 4 5 6 c)) ?hk ?_); (case hk => rfl); (conv => whnf); (repeat (refine And.intro ?_ ?_; exact sideT; (conv => whnf))); (fail_if_success (with_reducible first | refine And.intro (eqv_i ?_) ?_ | refine And.intro (ren_i ?_) ?_)))) | (((with_reducible refine qCall.of (cP) [] [(0, 0), (0, 4), (0, 5), (0, 6)] [] [(1, 16), (2, 17), (3, 18), (4, 19), (5, 20)] [(16, .uniq), (17, .uniq), (18, .uniq), (19, .uniq), (20, .uniq)] (.tup [.agg (cnG 16 17 18 y.c), .glist 19 7 (y.out.map (sgG 20)), .val (.int .i64 0)]) ?hk ?_); (case hk => rfl); (conv => whnf); (repeat (refine And.intro ?_ ?_; exact sideT; (conv => whnf))); (fail_if_success (with_reducible first | refine And.intro (eqv_i ?_) ?_ | refine And.intro (ren_i ?_) ?_))))) <;> (conv => whnf))))
      all_goals as_aux_lemma =>
        refine ⟨[], hto.symm, ?_⟩
        (refine qConv.of hB [(1, 1), (3, 2), (7, 3), (8, 4), (9, 8)] [(0, 0), (4, 5), (5, 6), (6, 7), (10, 9), (11, 10), (12, 11), (13, 12), (14, 13), (15, 14), (16, 15), (17, 16), (18, 17), (19, 18), (20, 19)] [] (by rfl) ?_; focus ((conv => whnf); (repeat (refine And.intro ?_ ?_; rotate_left; (conv => whnf))); exact trivial; all_goals (try exact andT)))
        all_goals (try exact dt_AhTcpOk_ROWO)
    · subst h
      rw [if_neg (by decide), if_neg (by decide), if_pos (by decide)] at he
      rw [if_neg (by decide), if_neg (by decide), if_neg (by decide), if_pos (by decide)] at hyd
      obtain ⟨h1, -⟩ := errB_t he
      have h2 : may = true := by rw [← hm]; exact h1
      subst h2
      have cP := tcpTick_l c hm
      have cR := rTick_l c hm
      have hto := ticks_told c
      rw [hyd] at cP cR hto
      dsimp only [cnR, cnG, cnL, rsN, spL] at cP cR
      ((conv => whnf); (repeat' ((first | (with_reducible first | refine qif_n ?_ | refine qif_t ‹_› ?_ | refine qif_f ‹_› ?_) | ((with_reducible refine qif_t ?_ ?_); focus decide) | ((with_reducible refine qif_f ?_ ?_); focus decide) | (with_reducible refine And.intro (orderOk_i ?ho) ?_; (case ho => kernel_rfl)) | (with_reducible first | refine qif_i (fun _ => ?_) (fun _ => ?_) | refine frcVs_i ?_ | refine frcRs_i ?_) | ((with_reducible refine qCall.pure (cM) ?_ ?_ ?_ ?_); rotate_left 4; exact trivial; exact plT; exact plT) | ((with_reducible refine qCall.pure (cW) ?_ ?_ ?_ ?_); rotate_left 4; exact trivial; exact plT; exact plT) | (((with_reducible refine qCall.of (cR) [] [(0, 0)] [] [(1, 9), (2, 10), (3, 11), (4, 12), (5, 13), (6, 14), (7, 15)] [(9, rsO (rsN 10 11 12 13 14 15 y)), (10, .uniq), (11, .uniq), (12, .uniq), (13, .uniq), (14, .uniq), (15, .uniq)] (.ptr 9 0 0) ?hk ?_); (case hk => rfl); (conv => whnf); (repeat (refine And.intro ?_ ?_; exact sideT; (conv => whnf))); (fail_if_success (with_reducible first | refine And.intro (eqv_i ?_) ?_ | refine And.intro (ren_i ?_) ?_)))) | (((with_reducible refine qCall.of (cC) [] [(0, 0)] [] [(1, 4), (2, 5), (3, 6)] [(4, .uniq), (5, .uniq), (6, .uniq)] (.agg (cnG 4 5 6 c)) ?hk ?_); (case hk => rfl); (conv => whnf); (repeat (refine And.intro ?_ ?_; exact sideT; (conv => whnf))); (fail_if_success (with_reducible first | refine And.intro (eqv_i ?_) ?_ | refine And.intro (ren_i ?_) ?_)))) | (((with_reducible refine qCall.of (cP) [] [(0, 0), (0, 4), (0, 5), (0, 6)] [] [(1, 16), (2, 17), (3, 18), (4, 19), (5, 20)] [(16, .uniq), (17, .uniq), (18, .uniq), (19, .uniq), (20, .uniq)] (.tup [.agg (cnG 16 17 18 y.c), .glist 19 7 (y.out.map (sgG 20)), .val (.int .i64 0)]) ?hk ?_); (case hk => rfl); (conv => whnf); (repeat (refine And.intro ?_ ?_; exact sideT; (conv => whnf))); (fail_if_success (with_reducible first | refine And.intro (eqv_i ?_) ?_ | refine And.intro (ren_i ?_) ?_))))) <;> (conv => whnf))))
      all_goals as_aux_lemma =>
        refine ⟨[], hto.symm, ?_⟩
        (refine qConv.of hB [(1, 1), (3, 2), (7, 3), (8, 4), (9, 8)] [(0, 0), (4, 5), (5, 6), (6, 7), (10, 9), (11, 10), (12, 11), (13, 12), (14, 13), (15, 14), (16, 15), (17, 16), (18, 17), (19, 18), (20, 19)] [] (by rfl) ?_; focus ((conv => whnf); (repeat (refine And.intro ?_ ?_; rotate_left; (conv => whnf))); exact trivial; all_goals (try exact andT)))
        all_goals (try exact dt_AhTcpOk_ROWO)
    · subst h
      rw [if_neg (by decide), if_neg (by decide), if_pos (by decide)] at he
      rw [if_neg (by decide), if_neg (by decide), if_neg (by decide), if_pos (by decide)] at hyd
      obtain ⟨h1, -⟩ := errB_t he
      have h2 : may = true := by rw [← hm]; exact h1
      subst h2
      have cP := tcpTick_l c hm
      have cR := rTick_l c hm
      have hto := ticks_told c
      rw [hyd] at cP cR hto
      dsimp only [cnR, cnG, cnL, rsN, spL] at cP cR
      ((conv => whnf); (repeat' ((first | (with_reducible first | refine qif_n ?_ | refine qif_t ‹_› ?_ | refine qif_f ‹_› ?_) | ((with_reducible refine qif_t ?_ ?_); focus decide) | ((with_reducible refine qif_f ?_ ?_); focus decide) | (with_reducible refine And.intro (orderOk_i ?ho) ?_; (case ho => kernel_rfl)) | (with_reducible first | refine qif_i (fun _ => ?_) (fun _ => ?_) | refine frcVs_i ?_ | refine frcRs_i ?_) | ((with_reducible refine qCall.pure (cM) ?_ ?_ ?_ ?_); rotate_left 4; exact trivial; exact plT; exact plT) | ((with_reducible refine qCall.pure (cW) ?_ ?_ ?_ ?_); rotate_left 4; exact trivial; exact plT; exact plT) | (((with_reducible refine qCall.of (cR) [] [(0, 0)] [] [(1, 9), (2, 10), (3, 11), (4, 12), (5, 13), (6, 14), (7, 15)] [(9, rsO (rsN 10 11 12 13 14 15 y)), (10, .uniq), (11, .uniq), (12, .uniq), (13, .uniq), (14, .uniq), (15, .uniq)] (.ptr 9 0 0) ?hk ?_); (case hk => rfl); (conv => whnf); (repeat (refine And.intro ?_ ?_; exact sideT; (conv => whnf))); (fail_if_success (with_reducible first | refine And.intro (eqv_i ?_) ?_ | refine And.intro (ren_i ?_) ?_)))) | (((with_reducible refine qCall.of (cC) [] [(0, 0)] [] [(1, 4), (2, 5), (3, 6)] [(4, .uniq), (5, .uniq), (6, .uniq)] (.agg (cnG 4 5 6 c)) ?hk ?_); (case hk => rfl); (conv => whnf); (repeat (refine And.intro ?_ ?_; exact sideT; (conv => whnf))); (fail_if_success (with_reducible first | refine And.intro (eqv_i ?_) ?_ | refine And.intro (ren_i ?_) ?_)))) | (((with_reducible refine qCall.of (cP) [] [(0, 0), (0, 4), (0, 5), (0, 6)] [] [(1, 16), (2, 17), (3, 18), (4, 19), (5, 20)] [(16, .uniq), (17, .uniq), (18, .uniq), (19, .uniq), (20, .uniq)] (.tup [.agg (cnG 16 17 18 y.c), .glist 19 7 (y.out.map (sgG 20)), .val (.int .i64 0)]) ?hk ?_); (case hk => rfl); (conv => whnf); (repeat (refine And.intro ?_ ?_; exact sideT; (conv => whnf))); (fail_if_success (with_reducible first | refine And.intro (eqv_i ?_) ?_ | refine And.intro (ren_i ?_) ?_))))) <;> (conv => whnf))))
      all_goals as_aux_lemma =>
        refine ⟨[], hto.symm, ?_⟩
        (refine qConv.of hB [(1, 1), (3, 2), (7, 3), (8, 4), (9, 8)] [(0, 0), (4, 5), (5, 6), (6, 7), (10, 9), (11, 10), (12, 11), (13, 12), (14, 13), (15, 14), (16, 15), (17, 16), (18, 17), (19, 18), (20, 19)] [] (by rfl) ?_; focus ((conv => whnf); (repeat (refine And.intro ?_ ?_; rotate_left; (conv => whnf))); exact trivial; all_goals (try exact andT)))
        all_goals (try exact dt_AhTcpOk_ROWO)
    · subst h
      rw [if_neg (by decide), if_neg (by decide), if_pos (by decide)] at he
      rw [if_neg (by decide), if_neg (by decide), if_neg (by decide), if_pos (by decide)] at hyd
      obtain ⟨h1, -⟩ := errB_t he
      have h2 : may = true := by rw [← hm]; exact h1
      subst h2
      have cP := tcpTick_l c hm
      have cR := rTick_l c hm
      have hto := ticks_told c
      rw [hyd] at cP cR hto
      dsimp only [cnR, cnG, cnL, rsN, spL] at cP cR
      ((conv => whnf); (repeat' ((first | (with_reducible first | refine qif_n ?_ | refine qif_t ‹_› ?_ | refine qif_f ‹_› ?_) | ((with_reducible refine qif_t ?_ ?_); focus decide) | ((with_reducible refine qif_f ?_ ?_); focus decide) | (with_reducible refine And.intro (orderOk_i ?ho) ?_; (case ho => kernel_rfl)) | (with_reducible first | refine qif_i (fun _ => ?_) (fun _ => ?_) | refine frcVs_i ?_ | refine frcRs_i ?_) | ((with_reducible refine qCall.pure (cM) ?_ ?_ ?_ ?_); rotate_left 4; exact trivial; exact plT; exact plT) | ((with_reducible refine qCall.pure (cW) ?_ ?_ ?_ ?_); rotate_left 4; exact trivial; exact plT; exact plT) | (((with_reducible refine qCall.of (cR) [] [(0, 0)] [] [(1, 9), (2, 10), (3, 11), (4, 12), (5, 13), (6, 14), (7, 15)] [(9, rsO (rsN 10 11 12 13 14 15 y)), (10, .uniq), (11, .uniq), (12, .uniq), (13, .uniq), (14, .uniq), (15, .uniq)] (.ptr 9 0 0) ?hk ?_); (case hk => rfl); (conv => whnf); (repeat (refine And.intro ?_ ?_; exact sideT; (conv => whnf))); (fail_if_success (with_reducible first | refine And.intro (eqv_i ?_) ?_ | refine And.intro (ren_i ?_) ?_)))) | (((with_reducible refine qCall.of (cC) [] [(0, 0)] [] [(1, 4), (2, 5), (3, 6)] [(4, .uniq), (5, .uniq), (6, .uniq)] (.agg (cnG 4 5 6 c)) ?hk ?_); (case hk => rfl); (conv => whnf); (repeat (refine And.intro ?_ ?_; exact sideT; (conv => whnf))); (fail_if_success (with_reducible first | refine And.intro (eqv_i ?_) ?_ | refine And.intro (ren_i ?_) ?_)))) | (((with_reducible refine qCall.of (cP) [] [(0, 0), (0, 4), (0, 5), (0, 6)] [] [(1, 16), (2, 17), (3, 18), (4, 19), (5, 20)] [(16, .uniq), (17, .uniq), (18, .uniq), (19, .uniq), (20, .uniq)] (.tup [.agg (cnG 16 17 18 y.c), .glist 19 7 (y.out.map (sgG 20)), .val (.int .i64 0)]) ?hk ?_); (case hk => rfl); (conv => whnf); (repeat (refine And.intro ?_ ?_; exact sideT; (conv => whnf))); (fail_if_success (with_reducible first | refine And.intro (eqv_i ?_) ?_ | refine And.intro (ren_i ?_) ?_))))) <;> (conv => whnf))))
      all_goals as_aux_lemma =>
        refine ⟨[], hto.symm, ?_⟩
        (refine qConv.of hB [(1, 1), (3, 2), (7, 3), (8, 4), (9, 8)] [(0, 0), (4, 5), (5, 6), (6, 7), (10, 9), (11, 10), (12, 11), (13, 12), (14, 13), (15, 14), (16, 15), (17, 16), (18, 17), (19, 18), (20, 19)] [] (by rfl) ?_; focus ((conv => whnf); (repeat (refine And.intro ?_ ?_; rotate_left; (conv => whnf))); exact trivial; all_goals (try exact andT)))
        all_goals (try exact dt_AhTcpOk_ROWO)
    · subst h
      rw [if_neg (by decide), if_neg (by decide), if_neg (by decide), if_pos rfl] at he
      rw [if_neg (by decide), if_neg (by decide), if_neg (by decide), if_neg (by decide), if_pos rfl] at hyd
      have hop : openB a.n a.m a.s.ack a.s = true := by
        cases h : openB a.n a.m a.s.ack a.s with
        | true => rfl
        | false => rw [h, cond_false] at he; exact absurd he (by decide)
      have cO := refMayOpen_l a.n a.m a.s.ack a.s
      rw [hop] at cO
      have cP := tcpOpenA_l a.n a.m a.s.ack a.s hop
      have cR := rOpen_l a.n a.m a.s.ack a.s
      have hto : (opens a.n a.m a.s.ack a.s).told = [] := rfl
      rw [hyd] at cP cR hto
      dsimp only [cnR, cnG, cnL, rsN, spL, sgR, sgL] at cP cR cO
      cases may <;> ((conv => whnf); (repeat' ((first | (with_reducible first | refine qif_n ?_ | refine qif_t ‹_› ?_ | refine qif_f ‹_› ?_) | ((with_reducible refine qif_t ?_ ?_); focus decide) | ((with_reducible refine qif_f ?_ ?_); focus decide) | (with_reducible refine And.intro (orderOk_i ?ho) ?_; (case ho => kernel_rfl)) | (with_reducible first | refine qif_i (fun _ => ?_) (fun _ => ?_) | refine frcVs_i ?_ | refine frcRs_i ?_) | ((with_reducible refine qCall.pure (cM) ?_ ?_ ?_ ?_); rotate_left 4; exact trivial; exact plT; exact plT) | ((with_reducible refine qCall.pure (cW) ?_ ?_ ?_ ?_); rotate_left 4; exact trivial; exact plT; exact plT) | ((with_reducible refine qCall.pure (cO) ?_ ?_ ?_ ?_); rotate_left 4; exact trivial; exact plT; exact plT) | (((with_reducible refine qCall.of (cR) [] [(0, 0)] [] [(1, 9), (2, 10), (3, 11), (4, 12), (5, 13), (6, 14), (7, 15)] [(9, rsO (rsN 10 11 12 13 14 15 y)), (10, .uniq), (11, .uniq), (12, .uniq), (13, .uniq), (14, .uniq), (15, .uniq)] (.ptr 9 0 0) ?hk ?_); (case hk => rfl); (conv => whnf); (repeat (refine And.intro ?_ ?_; exact sideT; (conv => whnf))); (fail_if_success (with_reducible first | refine And.intro (eqv_i ?_) ?_ | refine And.intro (ren_i ?_) ?_)))) | (((with_reducible refine qCall.of (cC) [] [(0, 0)] [] [(1, 4), (2, 5), (3, 6)] [(4, .uniq), (5, .uniq), (6, .uniq)] (.agg (cnG 4 5 6 c)) ?hk ?_); (case hk => rfl); (conv => whnf); (repeat (refine And.intro ?_ ?_; exact sideT; (conv => whnf))); (fail_if_success (with_reducible first | refine And.intro (eqv_i ?_) ?_ | refine And.intro (ren_i ?_) ?_)))) | (((with_reducible refine qCall.of (cP) [] [(0, 0), (0, 4), (0, 5), (0, 6)] [] [(1, 16), (2, 17), (3, 18), (4, 19), (5, 20)] [(16, .uniq), (17, .uniq), (18, .uniq), (19, .uniq), (20, .uniq)] (.tup [.agg (cnG 16 17 18 y.c), .glist 19 7 (y.out.map (sgG 20)), .val (.int .i64 0)]) ?hk ?_); (case hk => rfl); (conv => whnf); (repeat (refine And.intro ?_ ?_; exact sideT; (conv => whnf))); (fail_if_success (with_reducible first | refine And.intro (eqv_i ?_) ?_ | refine And.intro (ren_i ?_) ?_))))) <;> (conv => whnf))))
      all_goals as_aux_lemma =>
        refine ⟨[], hto.symm, ?_⟩
        (refine qConv.of hB [(1, 1), (3, 2), (7, 3), (8, 4), (9, 8)] [(0, 0), (4, 5), (5, 6), (6, 7), (10, 9), (11, 10), (12, 11), (13, 12), (14, 13), (15, 14), (16, 15), (17, 16), (18, 17), (19, 18), (20, 19)] [] (by rfl) ?_; focus ((conv => whnf); (repeat (refine And.intro ?_ ?_; rotate_left; (conv => whnf))); exact trivial; all_goals (try exact andT)))
        all_goals (try exact dt_AhTcpOk_ROWO)
    · obtain ⟨n1, n2, n3, n4, n5, n6, n7, n8⟩ : (k == 6) = false ∧ (k == 7) = false ∧ (k == 8) = false ∧ (k == 9) = false ∧ (k == 10) = false ∧ (k == 11) = false ∧ (k == 12) = false ∧ (k == 13) = false := by
        simp only [beq_eq_false_iff_ne]; omega
      rw [if_neg (by omega), if_neg (by omega), if_neg (by omega), if_neg (by omega)] at he
      rw [if_neg (by omega), if_neg (by omega), if_neg (by omega), if_neg (by omega), if_neg (by omega)] at hyd
      have hf : (cnB c && fitsB c (fitS c a)) = true := by
        cases h : (cnB c && fitsB c (fitS c a)) with
        | true => rfl
        | false => rw [h, cond_false] at he; exact absurd he (by decide)
      rw [Bool.and_eq_true] at hf
      obtain ⟨h1, h2⟩ := hf
      have h3 : may = true := by rw [← hm]; exact h1
      subst h3
      have cP := tcpTake_l c (fitS c a) hm h2
      have cR := rTakeA_l c (fitS c a) ((cnB_iff c).1 hm) (fits_t h2)
      have cQ := refFits_l c (fitS c a)
      rw [h2] at cQ
      rw [hyd] at cP cR
      obtain ⟨f, hfd⟩ : ∃ f, fitS c a = f := ⟨_, rfl⟩
      rw [hfd] at cP cR cQ cF cS cEq spS pzf
      dsimp only [cnR, cnG, cnL, rsN, spL, sgR, sgL] at cP cR cQ
      ((conv => whnf); (repeat' ((first | (with_reducible first | refine qif_n ?_ | refine qif_t ‹_› ?_ | refine qif_f ‹_› ?_) | ((with_reducible refine qif_t ?_ ?_); focus decide) | ((with_reducible refine qif_f ?_ ?_); focus decide) | (with_reducible refine And.intro (orderOk_i ?ho) ?_; (case ho => kernel_rfl)) | (with_reducible first | refine qif_i (fun _ => ?_) (fun _ => ?_) | refine frcVs_i ?_ | refine frcRs_i ?_) | ((with_reducible refine qCall.pure (cM) ?_ ?_ ?_ ?_); rotate_left 4; exact trivial; exact plT; exact plT) | ((with_reducible refine qCall.pure (cW) ?_ ?_ ?_ ?_); rotate_left 4; exact trivial; exact plT; exact plT) | (((with_reducible refine qCall.of (cC) [] [(0, 0)] [] [(1, 4), (2, 5), (3, 6)] [(4, .uniq), (5, .uniq), (6, .uniq)] (.agg (cnG 4 5 6 c)) ?hk ?_); (case hk => rfl); (conv => whnf); (repeat (refine And.intro ?_ ?_; exact sideT; (conv => whnf))); (fail_if_success (with_reducible first | refine And.intro (eqv_i ?_) ?_ | refine And.intro (ren_i ?_) ?_)))) | (((with_reducible refine qCall.of (cF) [] [(0, 0)] [] [(1, 9)] [(9, .uniq)] (.agg (sgG 9 f)) ?hk ?_); (case hk => rfl); (conv => whnf); (repeat (refine And.intro ?_ ?_; exact sideT; (conv => whnf))); (fail_if_success (with_reducible first | refine And.intro (eqv_i ?_) ?_ | refine And.intro (ren_i ?_) ?_)))) | (((with_reducible refine qCall.reads (cQ) [(0, 0), (0, 9)] [] ?hk ?_); (case hk => rfl); (conv => whnf); (repeat (refine And.intro ?_ ?_; exact sideT; (conv => whnf))); (fail_if_success (with_reducible first | refine And.intro (eqv_i ?_) ?_ | refine And.intro (ren_i ?_) ?_)))) | (((with_reducible refine qCall.of (cR) [] [(0, 0), (0, 9)] [] [(1, 11), (2, 12), (3, 13), (4, 14), (5, 15), (6, 16), (7, 17)] [(11, rsO (rsN 12 13 14 15 16 17 y)), (12, .uniq), (13, .uniq), (14, .uniq), (15, .uniq), (16, .uniq), (17, .uniq)] (.ptr 11 0 0) ?hk ?_); (case hk => rfl); (conv => whnf); (repeat (refine And.intro ?_ ?_; exact sideT; (conv => whnf))); (fail_if_success (with_reducible first | refine And.intro (eqv_i ?_) ?_ | refine And.intro (ren_i ?_) ?_)))) | (((with_reducible refine qCall.of (cS) [] [(0, 0), (0, 9)] [] [(1, 18)] [(18, .uniq)] (.agg (sgG 18 f)) ?hk ?_); (case hk => rfl); (conv => whnf); (repeat (refine And.intro ?_ ?_; exact sideT; (conv => whnf))); (fail_if_success (with_reducible first | refine And.intro (eqv_i ?_) ?_ | refine And.intro (ren_i ?_) ?_)))) | (((with_reducible refine qCall.of (cP) [] [(0, 0), (0, 4), (0, 5), (0, 6), (0, 18)] [] [(1, 20), (2, 21), (3, 22), (4, 23), (5, 24), (6, 25)] [(20, .uniq), (21, .uniq), (22, .uniq), (23, .uniq), (24, .uniq), (25, .uniq)] (.tup [.agg (cnG 20 21 22 y.c), .glist 23 7 (y.out.map (sgG 24)), gL 25 y.told, .val (.int .i64 0)]) ?hk ?_); (case hk => rfl); (conv => whnf); (repeat (refine And.intro ?_ ?_; exact sideT; (conv => whnf))); (fail_if_success (with_reducible first | refine And.intro (eqv_i ?_) ?_ | refine And.intro (ren_i ?_) ?_)))) | (((with_reducible refine qCall.reads (cEq) [(0, 0), (0, 9), (0, 18)] [] ?hk ?_); (case hk => rfl); (conv => whnf); (repeat (refine And.intro ?_ ?_; exact sideT; (conv => whnf))); (fail_if_success (with_reducible first | refine And.intro (eqv_i ?_) ?_ | refine And.intro (ren_i ?_) ?_)))) | (((with_reducible refine qCall.of (spS) [] [(0, 0), (1, 18)] [] [] [(18, .dead)] (.tup []) ?hk ?_); (case hk => rfl); (conv => whnf); (repeat (refine And.intro ?_ ?_; exact sideT; (conv => whnf))); (fail_if_success (with_reducible first | refine And.intro (eqv_i ?_) ?_ | refine And.intro (ren_i ?_) ?_))))) <;> (conv => whnf))))
      all_goals as_aux_lemma =>
        refine ⟨y.told, rfl, ?_⟩
        (refine qConv.of hB [(1, 1), (3, 2), (7, 3), (8, 4), (11, 8)] [(0, 0), (4, 5), (5, 6), (6, 7), (12, 9), (13, 10), (14, 11), (15, 12), (16, 13), (17, 14), (20, 15), (21, 16), (22, 17), (23, 18), (24, 19), (25, 20)] [] (by rfl) ?_; focus ((conv => whnf); (repeat (refine And.intro ?_ ?_; rotate_left; (conv => whnf))); exact trivial; all_goals (try exact andT)))
        all_goals (try exact dt_AhTcpOk_ROWO)
  · rintro t ht
    subst ht
    refine qAWs.fin mixed (by simp only [chain]; rfl) ?_
    dsimp only [cnR, cnG, cnL, rsN, spL]
    ((conv => whnf); (repeat' ((first | (with_reducible first | refine qif_n ?_ | refine qif_t ‹_› ?_ | refine qif_f ‹_› ?_) | ((with_reducible refine qif_t ?_ ?_); focus decide) | ((with_reducible refine qif_f ?_ ?_); focus decide) | (with_reducible refine And.intro (orderOk_i ?ho) ?_; (case ho => kernel_rfl)) | (with_reducible first | refine qif_i (fun _ => ?_) (fun _ => ?_) | refine frcVs_i ?_ | refine frcRs_i ?_) | ((with_reducible refine qCall.pure (num16_l _) ?_ ?_ ?_ ?_); rotate_left 4; exact trivial; exact plT; exact plT) | (((with_reducible refine qCall.reads (cE) [(0, 0), (0, 5), (0, 6), (0, 7)] [] ?hk ?_); (case hk => rfl); (conv => whnf); (repeat (refine And.intro ?_ ?_; exact sideT; (conv => whnf))); (fail_if_success (with_reducible first | refine And.intro (eqv_i ?_) ?_ | refine And.intro (ren_i ?_) ?_)))) | (((with_reducible refine qCall.reads (cEy) [(0, 0), (0, 15), (0, 16), (0, 17), (0, 9), (0, 10), (0, 11)] [] ?hk ?_); (case hk => rfl); (conv => whnf); (repeat (refine And.intro ?_ ?_; exact sideT; (conv => whnf))); (fail_if_success (with_reducible first | refine And.intro (eqv_i ?_) ?_ | refine And.intro (ren_i ?_) ?_)))) | (((with_reducible refine qCall.reads (cG) [(0, 0), (0, 18), (0, 19), (0, 13), (0, 14)] [] ?hk ?_); (case hk => rfl); (conv => whnf); (repeat (refine And.intro ?_ ?_; exact sideT; (conv => whnf))); (fail_if_success (with_reducible first | refine And.intro (eqv_i ?_) ?_ | refine And.intro (ren_i ?_) ?_)))) | (((with_reducible refine qCall.reads (cT) [(0, 0), (0, 20), (0, 12)] [] ?hk ?_); (case hk => rfl); (conv => whnf); (repeat (refine And.intro ?_ ?_; exact sideT; (conv => whnf))); (fail_if_success (with_reducible first | refine And.intro (eqv_i ?_) ?_ | refine And.intro (ren_i ?_) ?_)))) | (((with_reducible refine qCall.of (spC) [] [(0, 0), (1, 15), (2, 16), (3, 17)] [] [] [(15, .dead), (16, .dead), (17, .dead)] (.tup []) ?hk ?_); (case hk => rfl); (conv => whnf); (repeat (refine And.intro ?_ ?_; exact sideT; (conv => whnf))); (fail_if_success (with_reducible first | refine And.intro (eqv_i ?_) ?_ | refine And.intro (ren_i ?_) ?_)))) | (((with_reducible refine qCall.of (spG) [] [(0, 0), (1, 18), (2, 19)] [] [] [(18, .dead), (19, .dead)] (.tup []) ?hk ?_); (case hk => rfl); (conv => whnf); (repeat (refine And.intro ?_ ?_; exact sideT; (conv => whnf))); (fail_if_success (with_reducible first | refine And.intro (eqv_i ?_) ?_ | refine And.intro (ren_i ?_) ?_)))) | (((with_reducible refine qCall.of (spT) [] [(0, 0), (1, 20)] [] [] [(20, .dead)] (.tup []) ?hk ?_); (case hk => rfl); (conv => whnf); (repeat (refine And.intro ?_ ?_; exact sideT; (conv => whnf))); (fail_if_success (with_reducible first | refine And.intro (eqv_i ?_) ?_ | refine And.intro (ren_i ?_) ?_))))) <;> (conv => whnf))))
    all_goals (refine qConv.of hB [] [(0, 0), (9, 1), (10, 2), (11, 3)] [] (by rfl) ?_; focus ((conv => whnf); (repeat (refine And.intro ?_ ?_; rotate_left; (conv => whnf))); exact trivial; all_goals (try exact andT)))
    all_goals (try exact dt_AhTcpOk_ROWO)
end Go.Proofs.YtoknaaoioglapaaGreat

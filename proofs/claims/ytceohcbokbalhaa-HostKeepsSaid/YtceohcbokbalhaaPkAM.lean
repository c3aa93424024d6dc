/- Contracts and plain laws, one behind the other: AhHeF, AhHoC, AhTcpS, AhTcpV, AhHoP, AhHoQ, AhHeK. Conditions are said at each. -/
import Derived.Test.YtceohcbokbalhaaPkAL
import Derived.Test.YtceohcbokbalhaaPkAJ
import Derived.Test.YtceohcbokbalhaaPkAE
import Derived.Test.YtceohcbokbalhaaPkAI
import Derived.Test.YtceohcbokbalhaaPkAD
/- A segment made to fit a host's connection: on data. Conditions: lengths. -/
namespace Go.Proofs.Ytceohcbokbalhaa
open Go.RowKit
set_option linter.unusedVariables false
set_option linter.unusedSimpArgs false
set_option maxRecDepth 100000
set_option maxHeartbeats 4000000
def fitC (c : Cn) (a : Act7) : Sg :=
  bif a.n.tmod 4 == 0 then { a.s with sp := c.pp, dp := c.port }
  else { a.s with sp := c.pp, dp := c.port, seq := c.inx, ack := wadd c.una ([0, wdiff c.nx c.una].getD (bring a.n 2).toNat 0), fl := bits .or .i64 a.s.fl 16 }
def fit7 (h : Ho) (a : Act7) : Int × Sg :=
  bif a.fit && !h.conns.isEmpty then ((h.conns.getD (bring a.link h.conns.length).toNat cnZ).ip, fitC (h.conns.getD (bring a.link h.conns.length).toNat cnZ) a) else (a.ip, a.s)
theorem fit7_data (h : Ho) (a : Act7) : (fit7 h a).2.data = a.s.data := by
  unfold fit7 fitC
  cases a.fit && !h.conns.isEmpty <;> cases a.n.tmod 4 == 0 <;> rfl
theorem dt_AhHeF_ROWF {p : Prop} (h : p := by first | ((first | rfl | exact bytes_cells _ | (refine RowsRen.one ?_; (repeat (refine Cells.cons ?_ ?_; focus (first | exact .val _ | exact Ren.gg rfl _ | fail))); exact Cells.nil)); done) | fail) : p := h
theorem fit17_l (h : Ho) (a : Act7) (hl : h.conns.length ≤ 100000) (hc : ∀ c ∈ h.conns, CnLen c) (ha : a.s.data.length ≤ 30000) : ACallL Try.prog 9 [.agg (hoR h), .agg (alR 0 a)] [.perm] (.tup [.val (.int .i64 (fit7 h a).1), .agg (sgG 1 (fit7 h a).2)]) [.perm, .uniq] := by
  obtain ⟨cs, count⟩ := h
  dsimp only at hl hc
  have px := pl_cns cs
  have pz := pl_bytes a.s.data
  have pb := pl_bytes a.b
  have cC := copySeg_l a.s (by omega)
  have clen : (cs.map (cnR 0)).length = cs.length := by simp
  unfold fit7
  dsimp only [hoR, alR, alL, sgR, sgG, sgL] at cC ⊢
  cases hf : a.fit with
  | false =>
    refine ACallL.of_ev mixed Try.func9 rfl (fun a w => Try.call9 a w) (congrArg Array.toList Try.results9) Try.ntmps9 fun B hB => ?_
    ((conv => whnf); (repeat' ((first | (with_reducible first | refine qif_n ?_ | refine qif_t ‹_› ?_ | refine qif_f ‹_› ?_) | ((with_reducible refine qif_t ?_ ?_); focus decide) | ((with_reducible refine qif_f ?_ ?_); focus decide) | (with_reducible refine And.intro (orderOk_i ?ho) ?_; (case ho => kernel_rfl)) | (with_reducible first | refine qif_i (fun _ => ?_) (fun _ => ?_) | refine frcVs_i ?_ | refine frcRs_i ?_) | (((with_reducible refine qCall.of (cC) [] [(0, 0)] [] [(1, 4)] [(4, .uniq)] (.agg (sgG 4 a.s)) ?hk ?_); (case hk => rfl); (conv => whnf); (repeat (refine And.intro ?_ ?_; exact sideT; (conv => whnf))); (fail_if_success (with_reducible first | refine And.intro (eqv_i ?_) ?_ | refine And.intro (ren_i ?_) ?_))))) <;> (conv => whnf))))
    all_goals ((refine qConv.of hB [] [(0, 0), (4, 1)] [] (by rfl) ?_; focus ((conv => whnf); (repeat (refine And.intro ?_ ?_; rotate_left; (conv => whnf))); exact trivial; all_goals (try exact andT))))
    all_goals (try exact dt_AhHeF_ROWF)
    all_goals trace_state
  | true =>
    cases cs with
    | nil =>
      refine ACallL.of_ev mixed Try.func9 rfl (fun a w => Try.call9 a w) (congrArg Array.toList Try.results9) Try.ntmps9 fun B hB => ?_
      ((conv => whnf); (repeat' ((first | (with_reducible first | refine qif_n ?_ | refine qif_t ‹_› ?_ | refine qif_f ‹_› ?_) | ((with_reducible refine qif_t ?_ ?_); focus decide) | ((with_reducible refine qif_f ?_ ?_); focus decide) | (with_reducible refine And.intro (orderOk_i ?ho) ?_; (case ho => kernel_rfl)) | (with_reducible first | refine qif_i (fun _ => ?_) (fun _ => ?_) | refine frcVs_i ?_ | refine frcRs_i ?_) | (((with_reducible refine qCall.of (cC) [] [(0, 0)] [] [(1, 4)] [(4, .uniq)] (.agg (sgG 4 a.s)) ?hk ?_); (case hk => rfl); (conv => whnf); (repeat (refine And.intro ?_ ?_; exact sideT; (conv => whnf))); (fail_if_success (with_reducible first | refine And.intro (eqv_i ?_) ?_ | refine And.intro (ren_i ?_) ?_))))) <;> (conv => whnf))))
      all_goals ((refine qConv.of hB [] [(0, 0), (4, 1)] [] (by rfl) ?_; focus ((conv => whnf); (repeat (refine And.intro ?_ ?_; rotate_left; (conv => whnf))); exact trivial; all_goals (try exact andT))))
      all_goals (try exact dt_AhHeF_ROWF)
      all_goals trace_state
    | cons c0 cs0 =>
      obtain ⟨cs, hcs⟩ : ∃ r, c0 :: cs0 = r := ⟨_, rfl⟩
      have h0 : 0 < cs.length := by rw [← hcs]; simp
      have hem : cs.isEmpty = false := by rw [← hcs]; rfl
      rw [hcs] at hl hc px clen ⊢
      have hne : (((cs.map (cnR 0)).length : Int) == 0) = false := by rw [clen]; exact beq_eq_false_iff_ne.2 (by omega)
      rw [hem]
      have cB := bring_l a.link cs.length (by omega) (by omega)
      have bb := bring_bd a.link cs.length (by omega)
      obtain ⟨j, hj⟩ : ∃ j : Nat, bring a.link cs.length = j := ⟨(bring a.link cs.length).toNat, by omega⟩
      rw [hj] at cB bb ⊢
      have hjl : j < cs.length := by omega
      obtain ⟨c, hck⟩ : ∃ p, cs[j]? = some p := ⟨_, List.getElem?_eq_getElem hjl⟩
      have hg : cs.getD (j : Int).toNat cnZ = c := by simp [List.getD, hck]
      rw [hg]
      have hrow : (cs.map (cnR 0))[(j : Int).toNat]? = some (cnR 0 c) := by simp [hck]
      have p1 := pl_bytes c.out
      have p2 := pl_parts c.parts
      rw [← clen] at cB
      unfold fitC
      simp only [Bool.not_false, Bool.and_true, cond_true]
      cases hn : (a.n.tmod 4 == 0) with
      | true =>
        have hn2 : (a.n.tmod 4 != 0) = false := by rw [bne, hn]; rfl
        rw [cond_true]
        refine ACallL.of_ev mixed Try.func9 rfl (fun a w => Try.call9 a w) (congrArg Array.toList Try.results9) Try.ntmps9 fun B hB => ?_
        ((conv => whnf); (repeat' ((first | (with_reducible first | refine qif_n ?_ | refine qif_t ‹_› ?_ | refine qif_f ‹_› ?_) | ((with_reducible refine qif_t ?_ ?_); focus decide) | ((with_reducible refine qif_f ?_ ?_); focus decide) | (with_reducible refine And.intro (orderOk_i ?ho) ?_; (case ho => kernel_rfl)) | ((with_reducible refine qif_t ?_ ?_); focus (simp [hjl]; done)) | ((with_reducible refine qif_f ?_ ?_); focus (simp [hjl]; done)) | (with_reducible first | refine qif_i (fun _ => ?_) (fun _ => ?_) | refine frcVs_i ?_ | refine frcRs_i ?_) | (((with_reducible refine qCall.of (cC) [] [(0, 0)] [] [(1, 4)] [(4, .uniq)] (.agg (sgG 4 a.s)) ?hk ?_); (case hk => rfl); (conv => whnf); (repeat (refine And.intro ?_ ?_; exact sideT; (conv => whnf))); (fail_if_success (with_reducible first | refine And.intro (eqv_i ?_) ?_ | refine And.intro (ren_i ?_) ?_)))) | ((with_reducible refine qCall.pure (cB) ?_ ?_ ?_ ?_); rotate_left 4; exact trivial; exact plT; exact plT) | (refine qCase_i (remN rfl rfl rfl (by decide)) ?_) | (refine qCase_i (idxL rfl rfl rfl rfl rfl rfl (by omega) hrow) ?_)) <;> (conv => whnf))))
        all_goals ((refine qConv.of hB [] [(0, 0), (4, 1)] [] (by rfl) ?_; focus ((conv => whnf); (repeat (refine And.intro ?_ ?_; rotate_left; (conv => whnf))); exact trivial; all_goals (try exact andT))))
        all_goals (try exact dt_AhHeF_ROWF)
        all_goals trace_state
      | false =>
        have hn2 : (a.n.tmod 4 != 0) = true := by rw [bne, hn]; rfl
        rw [cond_false]
        have b2 := bring_bd a.n 2 (by decide)
        have c2 := bring_l a.n 2 (by decide) (by decide)
        obtain ⟨j2, h2⟩ : ∃ j : Nat, bring a.n 2 = j := ⟨(bring a.n 2).toNat, by omega⟩
        rw [h2] at c2 b2 ⊢
        have e2 : 0 + (j2 : Int).toNat = j2 := by omega
        have r2 : ([0, wdiff c.nx c.una] : List Int)[j2]? = some (([0, wdiff c.nx c.una] : List Int).getD (j2 : Int).toNat 0) := by
          have : j2 = 0 ∨ j2 = 1 := by omega
          rcases this with rfl | rfl <;> rfl
        obtain ⟨v2, hv2⟩ : ∃ r, ([0, wdiff c.nx c.una] : List Int).getD (j2 : Int).toNat 0 = r := ⟨_, rfl⟩
        rw [hv2] at r2 ⊢
        have s2 : (([0, wdiff c.nx c.una] : List Int).map iR)[j2]? = some (iR v2) := by rw [List.getElem?_map, r2]; rfl
        simp only [List.map_cons, List.map_nil, iR] at s2
        refine ACallL.of_ev mixed Try.func9 rfl (fun a w => Try.call9 a w) (congrArg Array.toList Try.results9) Try.ntmps9 fun B hB => ?_
        ((conv => whnf); (repeat' ((first | (with_reducible first | refine qif_n ?_ | refine qif_t ‹_› ?_ | refine qif_f ‹_› ?_) | ((with_reducible refine qif_t ?_ ?_); focus decide) | ((with_reducible refine qif_f ?_ ?_); focus decide) | (with_reducible refine And.intro (orderOk_i ?ho) ?_; (case ho => kernel_rfl)) | ((with_reducible refine qif_t ?_ ?_); focus (simp [hjl]; done)) | ((with_reducible refine qif_f ?_ ?_); focus (simp [hjl]; done)) | (with_reducible first | refine qif_i (fun _ => ?_) (fun _ => ?_) | refine frcVs_i ?_ | refine frcRs_i ?_) | (((with_reducible refine qCall.of (cC) [] [(0, 0)] [] [(1, 4)] [(4, .uniq)] (.agg (sgG 4 a.s)) ?hk ?_); (case hk => rfl); (conv => whnf); (repeat (refine And.intro ?_ ?_; exact sideT; (conv => whnf))); (fail_if_success (with_reducible first | refine And.intro (eqv_i ?_) ?_ | refine And.intro (ren_i ?_) ?_)))) | ((with_reducible refine qCall.pure (cB) ?_ ?_ ?_ ?_); rotate_left 4; exact trivial; exact plT; exact plT) | ((with_reducible refine qCall.pure (c2) ?_ ?_ ?_ ?_); rotate_left 4; exact trivial; exact plT; exact plT) | ((with_reducible refine qCall.pure (refDiff_l _ _) ?_ ?_ ?_ ?_); rotate_left 4; exact trivial; exact plT; exact plT) | ((with_reducible refine qCall.pure (refAdd_l _ _) ?_ ?_ ?_ ?_); rotate_left 4; exact trivial; exact plT; exact plT) | (refine qCase_i (remN rfl rfl rfl (by decide)) ?_) | (refine qCase_i (idxL rfl rfl rfl rfl rfl rfl (by omega) hrow) ?_) | (refine qCase_i (idxS rfl rfl rfl rfl rfl rfl rfl rfl (by omega)) ?_) | (refine qCase_i (ldR' rfl rfl rfl rfl rfl (by with_reducible exact e2) s2 rfl) ?_)) <;> (conv => whnf))))
        all_goals ((refine qConv.of hB [] [(0, 0), (4, 1)] [] (by rfl) ?_; focus ((conv => whnf); (repeat (refine And.intro ?_ ?_; rotate_left; (conv => whnf))); exact trivial; all_goals (try exact andT))))
        all_goals (try exact dt_AhHeF_ROWF)
        all_goals trace_state
end Go.Proofs.Ytceohcbokbalhaa

/- Hosts copied, compared; segments with whom they are for compared: on data. Conditions: lengths. -/
namespace Go.Proofs.Ytceohcbokbalhaa
open Go.RowKit
set_option linter.unusedVariables false
set_option linter.unusedSimpArgs false
set_option maxRecDepth 100000
set_option maxHeartbeats 4000000
section
variable {L I F : Prs} {h : Hp} {o p d o' p' d' r : Nat}
theorem cns_gg2 {o2 p2 d2 : Nat} (h0 : I.has o o' = true) (h1 : I.has p p' = true) (h2 : I.has d d' = true) (g0 : I.has o2 o' = true) (g1 : I.has p2 p' = true) (g2 : I.has d2 d' = true) (l : List Cn) (c : Cn) :
    RowsRen (qOf L I F) h (l.map (cnG o p d) ++ [cnG o2 p2 d2 c]) ((l ++ [c]).map (cnG o' p' d')) :=
  RowsRen.castR (by rw [List.map_append]) (RowsRen.app (cns_gg h0 h1 h2 l) (cns_gg g0 g1 g2 [c]))
end
theorem copyConns_l (l : List Cn) (hl : l.length ≤ 100000) (hc : ∀ c ∈ l, CnLen c) : ACallL Try.prog 21 [.list 0 16 (l.map (cnR 0))] [.perm] (.glist 1 16 (l.map (cnG 2 3 4))) [.perm, .uniq, .uniq, .uniq, .uniq] := by
  have ll : (l.map (cnR 0)).length = l.length := by simp
  have px := pl_cns l
  refine ACallL.of_ev mixed Try.func21 rfl (fun a w => Try.call21 a w) (congrArg Array.toList Try.results21) Try.ntmps21 fun B hB => ?_
  ((conv => whnf); (repeat' ((first | (with_reducible first | refine qif_n ?_ | refine qif_t ‹_› ?_ | refine qif_f ‹_› ?_) | ((with_reducible refine qif_t ?_ ?_); focus decide) | ((with_reducible refine qif_f ?_ ?_); focus decide) | (with_reducible refine And.intro (orderOk_i ?ho) ?_; (case ho => kernel_rfl)) | (with_reducible first | refine qif_i (fun _ => ?_) (fun _ => ?_) | refine frcVs_i ?_ | refine frcRs_i ?_)) <;> (conv => whnf))))
  refine qAW.loopE mixed (X := Nat) (fun k => slotsOf 20 [(0, .list 0 16 (l.map (cnR 0))), (3, .glist 1 16 ((l.take k).map (cnG 2 3 4))), (4, .val (.int .i64 k))]) (fun k => [.perm, .uniq, .uniq, .uniq, .uniq])
    (fun k => k ≤ l.length) (fun k => l.length - k) 0 (Nat.zero_le _) ?_ ?_
  · (refine qConv.of hB [] [(0, 0)] [] (by rfl) ?_; focus ((conv => whnf); (repeat (refine And.intro ?_ ?_; rotate_left; (conv => whnf))); exact trivial; all_goals (try exact andT)))
    all_goals first | rfl | (exact rowsT)
  · rintro E k hk hE
    by_cases hlt : k < l.length
    · obtain ⟨c, hck⟩ : ∃ p, l[k]? = some p := ⟨_, List.getElem?_eq_getElem hlt⟩
      have hrow : (l.map (cnR 0))[(k : Int).toNat]? = some (cnR 0 c) := by simp [hck]
      have p1 := pl_bytes c.out
      have p2 := pl_parts c.parts
      have w := IntWalk.i64_in (k + 1) (by omega)
      have cC := copyConn_l c (hc c (List.mem_of_getElem? hck))
      have hsz : ((l.take k).map (cnG 2 3 4)).length + 1 ≤ 100001 := by simp; omega
      dsimp only [cnR, cnL] at cC
      subst hE
      ((conv => whnf); (repeat' ((first | (with_reducible first | refine qif_n ?_ | refine qif_t ‹_› ?_ | refine qif_f ‹_› ?_) | ((with_reducible refine qif_t ?_ ?_); focus decide) | ((with_reducible refine qif_f ?_ ?_); focus decide) | (with_reducible refine And.intro (orderOk_i ?ho) ?_; (case ho => kernel_rfl)) | ((with_reducible refine qif_t ?_ ?_); focus (simp [hlt]; done)) | ((with_reducible refine qif_f ?_ ?_); focus (simp [hlt]; done)) | (with_reducible first | refine qif_i (fun _ => ?_) (fun _ => ?_) | refine frcVs_i ?_ | refine frcRs_i ?_) | (refine qCase_i (idxL rfl rfl rfl rfl rfl rfl (by omega) hrow) ?_) | (((with_reducible refine qCall.of (cC) [] [(0, 0)] [] [(1, 5), (2, 6), (3, 7)] [(5, .uniq), (6, .uniq), (7, .uniq)] (.agg (cnG 5 6 7 c)) ?hk ?_); (case hk => rfl); (conv => whnf); (repeat (refine And.intro ?_ ?_; exact sideT; (conv => whnf))); (fail_if_success (with_reducible first | refine And.intro (eqv_i ?_) ?_ | refine And.intro (ren_i ?_) ?_)))) | (refine qCase_i (apG (nb := 160) rfl rfl rfl rfl rfl rfl rfl rfl rfl rfl ⟨Nat.zero_lt_succ _, Nat.zero_lt_succ _, rfl⟩ rfl (Nat.le_trans (Nat.mul_le_mul_right _ hsz) (by decide))) ?_)) <;> (conv => whnf))))
      refine ⟨k + 1, by omega, by omega, ?_⟩
      (refine qConv.of hB [] [(0, 0), (9, 1), (2, 2), (5, 2), (3, 3), (6, 3), (4, 4), (7, 4)] [] (by rfl) ?_; focus ((conv => whnf); (repeat (refine And.intro ?_ ?_; rotate_left; (conv => whnf))); exact trivial; all_goals (try exact andT)))
      all_goals first | rfl | (simp [w]; done) | (rw [take_snoc hck]; exact cns_gg2 rfl rfl rfl rfl rfl rfl _ _) | (exact rowsT) | trace_state
    · have e : l.take k = l := List.take_of_length_le (by omega)
      rw [e]
      subst hE
      ((conv => whnf); (repeat' ((first | (with_reducible first | refine qif_n ?_ | refine qif_t ‹_› ?_ | refine qif_f ‹_› ?_) | ((with_reducible refine qif_t ?_ ?_); focus decide) | ((with_reducible refine qif_f ?_ ?_); focus decide) | (with_reducible refine And.intro (orderOk_i ?ho) ?_; (case ho => kernel_rfl)) | ((with_reducible refine qif_t ?_ ?_); focus (simp [hlt]; done)) | ((with_reducible refine qif_f ?_ ?_); focus (simp [hlt]; done)) | (with_reducible first | refine qif_i (fun _ => ?_) (fun _ => ?_) | refine frcVs_i ?_ | refine frcRs_i ?_)) <;> (conv => whnf))))
      (refine qConv.of hB [] [(0, 0), (1, 1), (2, 2), (3, 3), (4, 4)] [] (by rfl) ?_; focus ((conv => whnf); (repeat (refine And.intro ?_ ?_; rotate_left; (conv => whnf))); exact trivial; all_goals (try exact andT)))
      all_goals first | rfl | exact cns_gg rfl rfl rfl _ | trace_state
theorem copyHost_l (h : Ho) (hl : h.conns.length ≤ 100000) (hc : ∀ c ∈ h.conns, CnLen c) : ACallL Try.prog 8 [.agg (hoR h)] [.perm] (.agg [.glist 1 16 (h.conns.map (cnG 2 3 4)), .val (.int .i64 h.count)]) [.perm, .uniq, .uniq, .uniq, .uniq] := by
  have px := pl_cns h.conns
  have cC := copyConns_l h.conns hl hc
  dsimp only [hoR]
  refine ACallL.of_ev mixed Try.func8 rfl (fun a w => Try.call8 a w) (congrArg Array.toList Try.results8) Try.ntmps8 fun B hB => ?_
  ((conv => whnf); (repeat' ((first | (with_reducible first | refine qif_n ?_ | refine qif_t ‹_› ?_ | refine qif_f ‹_› ?_) | ((with_reducible refine qif_t ?_ ?_); focus decide) | ((with_reducible refine qif_f ?_ ?_); focus decide) | (with_reducible refine And.intro (orderOk_i ?ho) ?_; (case ho => kernel_rfl)) | ((with_reducible refine qif_t ?_ ?_); focus (simp []; done)) | ((with_reducible refine qif_f ?_ ?_); focus (simp []; done)) | (with_reducible first | refine qif_i (fun _ => ?_) (fun _ => ?_) | refine frcVs_i ?_ | refine frcRs_i ?_) | (((with_reducible refine qCall.of (cC) [] [(0, 0)] [] [(1, 4), (2, 5), (3, 6), (4, 7)] [(4, .uniq), (5, .uniq), (6, .uniq), (7, .uniq)] (.glist 4 16 (h.conns.map (cnG 5 6 7))) ?hk ?_); (case hk => rfl); (conv => whnf); (repeat (refine And.intro ?_ ?_; exact sideT; (conv => whnf))); (fail_if_success (with_reducible first | refine And.intro (eqv_i ?_) ?_ | refine And.intro (ren_i ?_) ?_))))) <;> (conv => whnf))))
  (refine qConv.of hB [] [(0, 0), (4, 1), (5, 2), (6, 3), (7, 4)] [] (by rfl) ?_; focus ((conv => whnf); (repeat (refine And.intro ?_ ?_; rotate_left; (conv => whnf))); exact trivial; all_goals (try exact andT)))
  all_goals first | rfl | exact cns_gg rfl rfl rfl _ | trace_state
end Go.Proofs.Ytceohcbokbalhaa

/- The page's connection sends what it may: on data. Conditions: bounds. -/
namespace Go.Proofs.Ytceohcbokbalhaa
open Go.RowKit
set_option linter.unusedVariables false
set_option linter.unusedSimpArgs false
set_option maxRecDepth 100000
set_option maxHeartbeats 4000000
end Go.Proofs.Ytceohcbokbalhaa

/- The page's connection sends, is closed, aborted, opened: on data. Conditions: lengths. -/
namespace Go.Proofs.Ytceohcbokbalhaa
open Go.RowKit
set_option linter.unusedVariables false
set_option linter.unusedSimpArgs false
set_option maxRecDepth 100000
set_option maxHeartbeats 4000000
end Go.Proofs.Ytceohcbokbalhaa

/- What the page says may be a host, where it finds a connection: on data. Conditions: lengths. -/
namespace Go.Proofs.Ytceohcbokbalhaa
open Go.RowKit
set_option linter.unusedVariables false
set_option linter.unusedSimpArgs false
set_option maxRecDepth 100000
set_option maxHeartbeats 4000000
def lastK (l : List Cn) : Nat → Int
  | 0 => 0
  | i + 1 => (l.getD i cnZ).link
theorem conn_ways {l : List Cn} {i : Nat} {c : Cn} {count : Int} {b : Bool} (hc : l[i]? = some c) (hl : 0 < i → 1 ≤ lastK l i) (hgo : connsB count (lastK l i) (l.take i) (l.drop i) = b) (p : Cn) (hp : 0 < i → l[i - 1]? = some p) :
    (b = false ∧ (cnB c = false ∨ cnB c = true ∧ (c.st == 0) = true ∨ cnB c = true ∧ (c.st == 0) = false ∧ decide (c.link < 1) = true ∨ cnB c = true ∧ (c.st == 0) = false ∧ decide (c.link < 1) = false ∧ decide (count < c.link) = true ∨
      cnB c = true ∧ (c.st == 0) = false ∧ decide (c.link < 1) = false ∧ decide (count < c.link) = false ∧ (decide (0 < (i : Int)) = true ∧ decide (c.link ≤ p.link) = true ∨ decide (0 < (i : Int)) = true ∧ decide (c.link ≤ p.link) = false ∧ (c.port != 1883) = true ∨ decide (0 < (i : Int)) = false ∧ (c.port != 1883) = true))) ∨
    (cnB c = true ∧ (c.st == 0) = false ∧ decide (c.link < 1) = false ∧ decide (count < c.link) = false ∧ (decide (0 < (i : Int)) = true ∧ decide (c.link ≤ p.link) = false ∨ decide (0 < (i : Int)) = false) ∧ (c.port != 1883) = false ∧ 1 ≤ c.link ∧
      (!seenB c (l.take i) && connsB count (lastK l (i + 1)) (l.take (i + 1)) (l.drop (i + 1))) = b) := by
  have e1 : lastK l (i + 1) = c.link := by unfold lastK; simp [List.getD, hc]
  rw [e1, take_snoc hc]
  rw [drop_cons hc, connsB] at hgo
  have hlast : decide (lastK l i < c.link) = (!decide (c.link < 1) && !(decide (0 < (i : Int)) && decide (c.link ≤ p.link))) := by
    cases i with
    | zero =>
      rw [show decide (0 < ((0 : Nat) : Int)) = false by decide, Bool.false_and, Bool.not_false, Bool.and_true, Bool.eq_iff_iff]
      unfold lastK
      simp only [decide_eq_true_eq, Bool.not_eq_true', decide_eq_false_iff_not]
      omega
    | succ i =>
      have h1 := hl (by omega)
      have h2 := hp (by omega)
      have h2 : l[i]? = some p := h2
      have h3 : lastK l (i + 1) = p.link := by unfold lastK; simp [List.getD, h2]
      rw [h3] at h1 ⊢
      rw [Bool.eq_iff_iff]
      simp only [decide_eq_true_eq, Bool.and_eq_true, Bool.not_eq_true', decide_eq_false_iff_not, Bool.and_eq_false_iff]
      omega
  have hcount : decide (c.link ≤ count) = !decide (count < c.link) := by rw [Bool.eq_iff_iff]; simp
  have hport : (c.port == 1883) = !(c.port != 1883) := by rw [bne, Bool.not_not]
  have h1 : decide (c.link < 1) = false → 1 ≤ c.link := fun h => by simpa using h
  rw [hlast, hcount, hport] at hgo
  generalize connsB count c.link (l.take i ++ [c]) (l.drop (i + 1)) = v9 at hgo ⊢
  generalize seenB c (l.take i) = v8 at hgo ⊢
  generalize (c.port != 1883) = v7 at hgo ⊢
  generalize decide (c.link ≤ p.link) = v6 at hgo ⊢
  generalize decide (0 < (i : Int)) = v5 at hgo ⊢
  generalize decide (count < c.link) = v4 at hgo ⊢
  generalize decide (c.link < 1) = v3 at hgo h1 ⊢
  generalize (c.st == 0) = v2 at hgo ⊢
  generalize cnB c = v1 at hgo ⊢
  subst hgo
  cases v1
  · simp
  cases v2
  · cases v3
    · have h1 := h1 rfl
      cases v4 <;> cases v5 <;> cases v6 <;> cases v7 <;> simp [h1]
    · simp
  · simp
theorem rHost_l (h : Ho) (hl : h.conns.length ≤ 100000000) (hc : ∀ c ∈ h.conns, CnLen c) : ACallL Try.prog 7 [.agg (hoR h)] [.perm] (.val (.bool (hostB h))) [.perm] := by
  obtain ⟨l, count⟩ := h
  have px := pl_cns l
  have ll : (l.map (cnR 0)).length = l.length := by simp
  have cN := num_l count 1099511627776
  rw [← within.eq_1] at cN
  unfold hostB
  dsimp only [hoR] at hl hc ⊢
  by_cases h8 : l.length ≤ 8
  · have g8 : decide (8 < ((l.map (cnR 0)).length : Int)) = false := by simp; omega
    rw [show decide (l.length ≤ 8) = true by simpa using h8, Bool.true_and]
    cases hw : within count 1099511627776 with
    | false =>
      rw [hw] at cN
      rw [Bool.false_and]
      refine ACallL.of_ev mixed Try.func7 rfl (fun a w => Try.call7 a w) (congrArg Array.toList Try.results7) Try.ntmps7 fun B hB => ?_
      ((conv => whnf); (repeat' ((first | (with_reducible first | refine qif_n ?_ | refine qif_t ‹_› ?_ | refine qif_f ‹_› ?_) | ((with_reducible refine qif_t ?_ ?_); focus decide) | ((with_reducible refine qif_f ?_ ?_); focus decide) | (with_reducible refine And.intro (orderOk_i ?ho) ?_; (case ho => kernel_rfl)) | ((with_reducible refine qif_t ?_ ?_); focus (simp []; done)) | ((with_reducible refine qif_f ?_ ?_); focus (simp []; done)) | (with_reducible first | refine qif_i (fun _ => ?_) (fun _ => ?_) | refine frcVs_i ?_ | refine frcRs_i ?_) | ((with_reducible refine qCall.pure (cN) ?_ ?_ ?_ ?_); rotate_left 4; exact trivial; exact plT; exact plT)) <;> (conv => whnf))))
      (refine qConv.of hB [] [(0, 0)] [] (by rfl) ?_; focus ((conv => whnf); (repeat (refine And.intro ?_ ?_; rotate_left; (conv => whnf))); exact trivial; all_goals (try exact andT)))
    | true =>
      rw [hw] at cN
      rw [Bool.true_and]
      obtain ⟨b, hb⟩ : ∃ b, connsB count 0 [] l = b := ⟨_, rfl⟩
      rw [hb]
      refine ACallL.of_ev mixed Try.func7 rfl (fun a w => Try.call7 a w) (congrArg Array.toList Try.results7) Try.ntmps7 fun B hB => ?_
      ((conv => whnf); (repeat' ((first | (with_reducible first | refine qif_n ?_ | refine qif_t ‹_› ?_ | refine qif_f ‹_› ?_) | ((with_reducible refine qif_t ?_ ?_); focus decide) | ((with_reducible refine qif_f ?_ ?_); focus decide) | (with_reducible refine And.intro (orderOk_i ?ho) ?_; (case ho => kernel_rfl)) | ((with_reducible refine qif_t ?_ ?_); focus (simp []; done)) | ((with_reducible refine qif_f ?_ ?_); focus (simp []; done)) | (with_reducible first | refine qif_i (fun _ => ?_) (fun _ => ?_) | refine frcVs_i ?_ | refine frcRs_i ?_) | ((with_reducible refine qCall.pure (cN) ?_ ?_ ?_ ?_); rotate_left 4; exact trivial; exact plT; exact plT)) <;> (conv => whnf))))
      refine qAW.loopE mixed (X := Nat) (fun i => slotsOf 94 [(1, .ptr 1 0 0), (2, .val (.bool false)), (3, .val (.int .i64 i))]) (fun i => [.perm, .live ⟨2, 24, [[.list 0 16 (l.map (cnR 0)), .val (.int .i64 count)]]⟩])
        (fun i => i ≤ l.length ∧ (0 < i → 1 ≤ lastK l i) ∧ connsB count (lastK l i) (l.take i) (l.drop i) = b) (fun i => l.length - i) 0 ⟨Nat.zero_le _, fun h => absurd h (Nat.lt_irrefl _), hb⟩ ?_ ?_
      · (refine qConv.of hB [(1, 1)] [(0, 0)] [] (by rfl) ?_; focus ((conv => whnf); (repeat (refine And.intro ?_ ?_; rotate_left; (conv => whnf))); exact trivial; all_goals (try exact andT)))
        all_goals first | rfl | (exact rowsT) | trace_state
      · rintro E i ⟨hi, h1, hgo⟩ hE
        have w := IntWalk.i64_in ((i : Int) + 1) (by omega)
        by_cases hlt : i < l.length
        · obtain ⟨c, hck⟩ : ∃ p, l[i]? = some p := ⟨_, List.getElem?_eq_getElem hlt⟩
          have hrow : (l.map (cnR 0))[(i : Int).toNat]? = some (cnR 0 c) := by simp [hck]
          obtain ⟨p, hp⟩ : ∃ p, 0 < i → l[i - 1]? = some p := by
            by_cases h0 : 0 < i
            · exact ⟨l[i - 1], fun _ => List.getElem?_eq_getElem (by omega)⟩
            · exact ⟨cnZ, fun h => absurd h h0⟩
          have hrowp : 0 < i → (l.map (cnR 0))[(IntKind.i64.wrap ((i : Int) - 1)).toNat]? = some (cnR 0 p) := fun h => by
            rw [IntWalk.i64_in _ (by omega), show ((i : Int) - 1).toNat = i - 1 by omega]; simp [hp h]
          have wge : 0 < i → 0 ≤ IntKind.i64.wrap ((i : Int) - 1) := fun h => by rw [IntWalk.i64_in _ (by omega)]; omega
          have p1 := pl_bytes c.out
          have p2 := pl_parts c.parts
          have cC := refConn_l c (hc c (List.mem_of_getElem? hck))
          dsimp only [cnR, cnL] at cC
          rcases conn_ways hck h1 hgo p hp with ⟨rfl, ways⟩ | ⟨v1, v2, v3, v4, v5, v7, hlk, hgo2⟩
          · rcases ways with v1 | ⟨v1, v2⟩ | ⟨v1, v2, v3⟩ | ⟨v1, v2, v3, v4⟩ | ⟨v1, v2, v3, v4, (⟨v5, v6⟩ | ⟨v5, v6, v7⟩ | ⟨v5, v7⟩)⟩
            all_goals
              rw [v1] at cC
              try (have h0i : 0 < i := by have := of_decide_eq_true v5; omega)
              subst hE
              ((conv => whnf); (repeat' ((first | (with_reducible first | refine qif_n ?_ | refine qif_t ‹_› ?_ | refine qif_f ‹_› ?_) | ((with_reducible refine qif_t ?_ ?_); focus decide) | ((with_reducible refine qif_f ?_ ?_); focus decide) | (with_reducible refine And.intro (orderOk_i ?ho) ?_; (case ho => kernel_rfl)) | ((with_reducible refine qif_t ?_ ?_); focus (simp [hlt]; done)) | ((with_reducible refine qif_f ?_ ?_); focus (simp [hlt]; done)) | (with_reducible first | refine qif_i (fun _ => ?_) (fun _ => ?_) | refine frcVs_i ?_ | refine frcRs_i ?_) | ((with_reducible refine qCall.pure (cC) ?_ ?_ ?_ ?_); rotate_left 4; exact trivial; exact plT; exact plT) | (refine qCase_i (idxL rfl rfl rfl rfl rfl rfl (by omega) hrow) ?_) | (refine qCase_i (idxL rfl rfl rfl rfl rfl rfl (wge h0i) (hrowp h0i)) ?_)) <;> (conv => whnf))))
              (refine qConv.of hB [] [(0, 0)] [] (by rfl) ?_; focus ((conv => whnf); (repeat (refine And.intro ?_ ?_; rotate_left; (conv => whnf))); exact trivial; all_goals (try exact andT)))
          · rw [v1] at cC
            rcases v5 with ⟨v5, v6⟩ | v5
            all_goals
              try (have h0i : 0 < i := by have := of_decide_eq_true v5; omega)
              subst hE
              ((conv => whnf); (repeat' ((first | (with_reducible first | refine qif_n ?_ | refine qif_t ‹_› ?_ | refine qif_f ‹_› ?_) | ((with_reducible refine qif_t ?_ ?_); focus decide) | ((with_reducible refine qif_f ?_ ?_); focus decide) | (with_reducible refine And.intro (orderOk_i ?ho) ?_; (case ho => kernel_rfl)) | ((with_reducible refine qif_t ?_ ?_); focus (simp [hlt]; done)) | ((with_reducible refine qif_f ?_ ?_); focus (simp [hlt]; done)) | (with_reducible first | refine qif_i (fun _ => ?_) (fun _ => ?_) | refine frcVs_i ?_ | refine frcRs_i ?_) | ((with_reducible refine qCall.pure (cC) ?_ ?_ ?_ ?_); rotate_left 4; exact trivial; exact plT; exact plT) | (refine qCase_i (idxL rfl rfl rfl rfl rfl rfl (by omega) hrow) ?_) | (refine qCase_i (idxL rfl rfl rfl rfl rfl rfl (wge h0i) (hrowp h0i)) ?_)) <;> (conv => whnf))))
              refine qAW.loopE mixed (X := Nat) (fun k => slotsOf 94 [(1, .ptr 1 0 0), (2, .val (.bool false)), (3, .val (.int .i64 i)), (4, .ptr 2 0 0), (5, .val (.int .i64 k))]) (fun _ => [.perm, .live ⟨2, 24, [[.list 0 16 (l.map (cnR 0)), .val (.int .i64 count)]]⟩, .live ⟨16, 50, [cnR 0 c]⟩])
                (fun k => k ≤ i ∧ seenB c (l.take k) = false) (fun k => i - k) 0 ⟨Nat.zero_le _, rfl⟩ ?_ ?_
              · (refine qConv.of hB [(1, 1), (2, 2)] [(0, 0)] [] (by rfl) ?_; focus ((conv => whnf); (repeat (refine And.intro ?_ ?_; rotate_left; (conv => whnf))); exact trivial; all_goals (try exact andT)))
                all_goals first | rfl | (exact rowsT) | exact RowsRen.one (cn_rr rfl c) | trace_state
              · rintro E k ⟨hk, hno⟩ hE
                have wk := IntWalk.i64_in ((k : Int) + 1) (by omega)
                by_cases hkt : k < i
                · obtain ⟨d, hdk⟩ : ∃ p, l[k]? = some p := ⟨_, List.getElem?_eq_getElem (by omega)⟩
                  have hrowd : (l.map (cnR 0))[(k : Int).toNat]? = some (cnR 0 d) := by simp [hdk]
                  have hse : seenB c (l.take (k + 1)) = (d.ip == c.ip && d.pp == c.pp) := by
                    rw [take_snoc hdk]
                    have : seenB c (l.take k ++ [d]) = (seenB c (l.take k) || (d.ip == c.ip && d.pp == c.pp)) := by unfold seenB; simp
                    rw [this, hno, Bool.false_or]
                  obtain ⟨u1, hu1⟩ : ∃ b, (d.ip == c.ip) = b := ⟨_, rfl⟩
                  obtain ⟨u2, hu2⟩ : ∃ b, (d.pp == c.pp) = b := ⟨_, rfl⟩
                  rw [hu1, hu2] at hse
                  by_cases hsame : (u1 && u2) = true
                  · rw [hsame] at hse
                    have hb0 : b = false := by
                      rw [← hgo2]
                      have : seenB c (l.take i) = true := by
                        unfold seenB at hse ⊢
                        rw [List.any_eq_true] at hse ⊢
                        obtain ⟨x, hx, hx2⟩ := hse
                        refine ⟨x, ?_, hx2⟩
                        have : l.take (k + 1) = (l.take i).take (k + 1) := by rw [List.take_take, Nat.min_eq_left (by omega)]
                        rw [this] at hx
                        exact List.mem_of_mem_take hx
                      rw [this]; rfl
                    rw [hb0] at hE
                    rw [Bool.and_eq_true] at hsame
                    obtain ⟨rfl, rfl⟩ := hsame
                    subst hE
                    ((conv => whnf); (repeat' ((first | (with_reducible first | refine qif_n ?_ | refine qif_t ‹_› ?_ | refine qif_f ‹_› ?_) | ((with_reducible refine qif_t ?_ ?_); focus decide) | ((with_reducible refine qif_f ?_ ?_); focus decide) | (with_reducible refine And.intro (orderOk_i ?ho) ?_; (case ho => kernel_rfl)) | ((with_reducible refine qif_t ?_ ?_); focus (simp [hkt]; done)) | ((with_reducible refine qif_f ?_ ?_); focus (simp [hkt]; done)) | (with_reducible first | refine qif_i (fun _ => ?_) (fun _ => ?_) | refine frcVs_i ?_ | refine frcRs_i ?_) | (refine qCase_i (idxL rfl rfl rfl rfl rfl rfl (by omega) hrowd) ?_)) <;> (conv => whnf))))
                    (refine qConv.of hB [] [(0, 0)] [] (by rfl) ?_; focus ((conv => whnf); (repeat (refine And.intro ?_ ?_; rotate_left; (conv => whnf))); exact trivial; all_goals (try exact andT)))
                  · have hsame : (u1 && u2) = false := by simpa using hsame
                    rw [hsame] at hse
                    have hu : (d.ip == c.ip) = false ∨ (d.ip == c.ip) = true ∧ (d.pp == c.pp) = false := by
                      rw [hu1, hu2]; cases u1 <;> cases u2 <;> simp_all
                    clear hu1 hu2
                    subst hE
                    rcases hu with hu1 | ⟨hu1, hu2⟩
                    all_goals
                      ((conv => whnf); (repeat' ((first | (with_reducible first | refine qif_n ?_ | refine qif_t ‹_› ?_ | refine qif_f ‹_› ?_) | ((with_reducible refine qif_t ?_ ?_); focus decide) | ((with_reducible refine qif_f ?_ ?_); focus decide) | (with_reducible refine And.intro (orderOk_i ?ho) ?_; (case ho => kernel_rfl)) | ((with_reducible refine qif_t ?_ ?_); focus (simp [hkt]; done)) | ((with_reducible refine qif_f ?_ ?_); focus (simp [hkt]; done)) | (with_reducible first | refine qif_i (fun _ => ?_) (fun _ => ?_) | refine frcVs_i ?_ | refine frcRs_i ?_) | (refine qCase_i (idxL rfl rfl rfl rfl rfl rfl (by omega) hrowd) ?_)) <;> (conv => whnf))))
                      refine ⟨k + 1, ⟨by omega, hse⟩, by omega, ?_⟩
                      (refine qConv.of hB [(1, 1), (2, 2)] [(0, 0)] [] (by rfl) ?_; focus ((conv => whnf); (repeat (refine And.intro ?_ ?_; rotate_left; (conv => whnf))); exact trivial; all_goals (try exact andT)))
                      all_goals first | rfl | (simp [wk]; done) | (exact rowsT) | exact RowsRen.one (cn_rr rfl c) | trace_state
                · have e : k = i := by omega
                  subst e
                  rw [hno, Bool.not_false, Bool.true_and] at hgo2
                  subst hE
                  ((conv => whnf); (repeat' ((first | (with_reducible first | refine qif_n ?_ | refine qif_t ‹_› ?_ | refine qif_f ‹_› ?_) | ((with_reducible refine qif_t ?_ ?_); focus decide) | ((with_reducible refine qif_f ?_ ?_); focus decide) | (with_reducible refine And.intro (orderOk_i ?ho) ?_; (case ho => kernel_rfl)) | ((with_reducible refine qif_t ?_ ?_); focus (simp [hkt]; done)) | ((with_reducible refine qif_f ?_ ?_); focus (simp [hkt]; done)) | (with_reducible first | refine qif_i (fun _ => ?_) (fun _ => ?_) | refine frcVs_i ?_ | refine frcRs_i ?_)) <;> (conv => whnf))))
                  refine ⟨k + 1, ⟨by omega, fun _ => by unfold lastK; simpa [List.getD, hck] using hlk, hgo2⟩, by omega, ?_⟩
                  (refine qConv.of hB [(1, 1)] [(0, 0)] [] (by rfl) ?_; focus ((conv => whnf); (repeat (refine And.intro ?_ ?_; rotate_left; (conv => whnf))); exact trivial; all_goals (try exact andT)))
                  all_goals first | rfl | (simp [w]; done) | (exact rowsT) | trace_state
        · have e : i = l.length := by omega
          subst e
          rw [List.drop_of_length_le (Nat.le_refl _), connsB] at hgo
          subst hgo
          subst hE
          ((conv => whnf); (repeat' ((first | (with_reducible first | refine qif_n ?_ | refine qif_t ‹_› ?_ | refine qif_f ‹_› ?_) | ((with_reducible refine qif_t ?_ ?_); focus decide) | ((with_reducible refine qif_f ?_ ?_); focus decide) | (with_reducible refine And.intro (orderOk_i ?ho) ?_; (case ho => kernel_rfl)) | ((with_reducible refine qif_t ?_ ?_); focus (simp [hlt]; done)) | ((with_reducible refine qif_f ?_ ?_); focus (simp [hlt]; done)) | (with_reducible first | refine qif_i (fun _ => ?_) (fun _ => ?_) | refine frcVs_i ?_ | refine frcRs_i ?_)) <;> (conv => whnf))))
          (refine qConv.of hB [] [(0, 0)] [] (by rfl) ?_; focus ((conv => whnf); (repeat (refine And.intro ?_ ?_; rotate_left; (conv => whnf))); exact trivial; all_goals (try exact andT)))
  · have g8 : decide (8 < ((l.map (cnR 0)).length : Int)) = true := by simp; omega
    rw [show decide (l.length ≤ 8) = false by simpa using h8, Bool.false_and, Bool.and_false]
    refine ACallL.of_ev mixed Try.func7 rfl (fun a w => Try.call7 a w) (congrArg Array.toList Try.results7) Try.ntmps7 fun B hB => ?_
    ((conv => whnf); (repeat' ((first | (with_reducible first | refine qif_n ?_ | refine qif_t ‹_› ?_ | refine qif_f ‹_› ?_) | ((with_reducible refine qif_t ?_ ?_); focus decide) | ((with_reducible refine qif_f ?_ ?_); focus decide) | (with_reducible refine And.intro (orderOk_i ?ho) ?_; (case ho => kernel_rfl)) | ((with_reducible refine qif_t ?_ ?_); focus (simp []; done)) | ((with_reducible refine qif_f ?_ ?_); focus (simp []; done)) | (with_reducible first | refine qif_i (fun _ => ?_) (fun _ => ?_) | refine frcVs_i ?_ | refine frcRs_i ?_) | ((with_reducible refine qCall.pure (cN) ?_ ?_ ?_ ?_); rotate_left 4; exact trivial; exact plT; exact plT)) <;> (conv => whnf))))
    (refine qConv.of hB [] [(0, 0)] [] (by rfl) ?_; focus ((conv => whnf); (repeat (refine And.intro ?_ ?_; rotate_left; (conv => whnf))); exact trivial; all_goals (try exact andT)))
end Go.Proofs.Ytceohcbokbalhaa

/- The page's host: a connection is found, a step is put in its place: on data. Conditions: lengths. -/
namespace Go.Proofs.Ytceohcbokbalhaa
open Go.RowKit
set_option linter.unusedVariables false
set_option linter.unusedSimpArgs false
set_option maxRecDepth 100000
set_option maxHeartbeats 4000000
def idxJ : Option Nat → Int
  | some i => i
  | none => -1
theorem findJ_at {p : Cn → Bool} {l : List Cn} {k : Nat} {c : Cn} (h : ∀ j d, j < k → l[j]? = some d → p d = false) (hk : l[k]? = some c) (hc : p c = true) : l.findIdx? p = some k := by
  obtain ⟨hlt, e⟩ := List.getElem?_eq_some_iff.1 hk
  rw [List.findIdx?_eq_some_iff_getElem]
  refine ⟨hlt, by rw [e]; exact hc, fun j hj => ?_⟩
  have := h j l[j] hj (List.getElem?_eq_getElem (by omega))
  rw [this]
  decide
theorem findJ_none {p : Cn → Bool} {l : List Cn} (h : ∀ j d, j < l.length → l[j]? = some d → p d = false) : l.findIdx? p = none := by
  rw [List.findIdx?_eq_none_iff]
  intro d hd
  obtain ⟨j, hj⟩ := List.getElem?_of_mem hd
  exact h j d (List.getElem?_eq_some_iff.1 hj).1 hj
theorem rFind_l (h : Ho) (link : Int) (hl : h.conns.length ≤ 100000) : ACallL Try.prog 12 [.agg (hoR h), .val (.int .i64 link)] [.perm] (.val (.int .i64 (idxJ (h.at_ link)))) [.perm] := by
  obtain ⟨l, count⟩ := h
  have px := pl_cns l
  have ll : (l.map (cnR 0)).length = l.length := by simp
  unfold Ho.at_
  dsimp only [hoR] at hl ⊢
  refine ACallL.of_ev mixed Try.func12 rfl (fun a w => Try.call12 a w) (congrArg Array.toList Try.results12) Try.ntmps12 fun B hB => ?_
  ((conv => whnf); (repeat' ((first | (with_reducible first | refine qif_n ?_ | refine qif_t ‹_› ?_ | refine qif_f ‹_› ?_) | ((with_reducible refine qif_t ?_ ?_); focus decide) | ((with_reducible refine qif_f ?_ ?_); focus decide) | (with_reducible refine And.intro (orderOk_i ?ho) ?_; (case ho => kernel_rfl)) | (with_reducible first | refine qif_i (fun _ => ?_) (fun _ => ?_) | refine frcVs_i ?_ | refine frcRs_i ?_)) <;> (conv => whnf))))
  refine qAW.loopE mixed (X := Nat) (fun k => slotsOf 22 [(1, .val (.int .i64 link)), (2, .ptr 1 0 0), (5, .val (.int .i64 k))]) (fun k => [.perm, .live ⟨2, 24, [[.list 0 16 (l.map (cnR 0)), .val (.int .i64 count)]]⟩])
    (fun k => k ≤ l.length ∧ ∀ j d, j < k → l[j]? = some d → (d.link == link) = false) (fun k => l.length - k) 0 ⟨Nat.zero_le _, fun j d h => by omega⟩ ?_ ?_
  · (refine qConv.of hB [(1, 1)] [(0, 0)] [] (by rfl) ?_; focus ((conv => whnf); (repeat (refine And.intro ?_ ?_; rotate_left; (conv => whnf))); exact trivial; all_goals (try exact andT)))
    all_goals first | rfl | (exact rowsT)
  · rintro E k ⟨hk, hno⟩ hE
    by_cases hlt : k < l.length
    · obtain ⟨c, hc⟩ : ∃ p, l[k]? = some p := ⟨_, List.getElem?_eq_getElem hlt⟩
      have hrow : (l.map (cnR 0))[(k : Int).toNat]? = some (cnR 0 c) := by simp [hc]
      have w := IntWalk.i64_in (k + 1) (by omega)
      cases hb : (c.link == link) with
      | true =>
        have hf := findJ_at hno hc hb
        rw [hf] at hE
        subst hE
        ((conv => whnf); (repeat' ((first | (with_reducible first | refine qif_n ?_ | refine qif_t ‹_› ?_ | refine qif_f ‹_› ?_) | ((with_reducible refine qif_t ?_ ?_); focus decide) | ((with_reducible refine qif_f ?_ ?_); focus decide) | (with_reducible refine And.intro (orderOk_i ?ho) ?_; (case ho => kernel_rfl)) | ((with_reducible refine qif_t ?_ ?_); focus (simp [hlt]; done)) | ((with_reducible refine qif_f ?_ ?_); focus (simp [hlt]; done)) | (with_reducible first | refine qif_i (fun _ => ?_) (fun _ => ?_) | refine frcVs_i ?_ | refine frcRs_i ?_) | (refine qCase_i (idxL rfl rfl rfl rfl rfl rfl (by omega) hrow) ?_)) <;> (conv => whnf))))
        (refine qConv.of hB [] [(0, 0)] [] (by rfl) ?_; focus ((conv => whnf); (repeat (refine And.intro ?_ ?_; rotate_left; (conv => whnf))); exact trivial; all_goals (try exact andT)))
        all_goals rfl
      | false =>
        subst hE
        ((conv => whnf); (repeat' ((first | (with_reducible first | refine qif_n ?_ | refine qif_t ‹_› ?_ | refine qif_f ‹_› ?_) | ((with_reducible refine qif_t ?_ ?_); focus decide) | ((with_reducible refine qif_f ?_ ?_); focus decide) | (with_reducible refine And.intro (orderOk_i ?ho) ?_; (case ho => kernel_rfl)) | ((with_reducible refine qif_t ?_ ?_); focus (simp [hlt]; done)) | ((with_reducible refine qif_f ?_ ?_); focus (simp [hlt]; done)) | (with_reducible first | refine qif_i (fun _ => ?_) (fun _ => ?_) | refine frcVs_i ?_ | refine frcRs_i ?_) | (refine qCase_i (idxL rfl rfl rfl rfl rfl rfl (by omega) hrow) ?_)) <;> (conv => whnf))))
        refine ⟨k + 1, ⟨by omega, fun j d hj hd => ?_⟩, by omega, ?_⟩
        · by_cases e : j = k
          · subst e; rw [hc] at hd; cases hd; exact hb
          · exact hno j d (by omega) hd
        · (refine qConv.of hB [(1, 1)] [(0, 0)] [] (by rfl) ?_; focus ((conv => whnf); (repeat (refine And.intro ?_ ?_; rotate_left; (conv => whnf))); exact trivial; all_goals (try exact andT)))
          all_goals first | rfl | (simp [w]; done) | (exact rowsT)
    · have e : k = l.length := by omega
      subst e
      have hf := findJ_none hno
      rw [hf] at hE
      subst hE
      ((conv => whnf); (repeat' ((first | (with_reducible first | refine qif_n ?_ | refine qif_t ‹_› ?_ | refine qif_f ‹_› ?_) | ((with_reducible refine qif_t ?_ ?_); focus decide) | ((with_reducible refine qif_f ?_ ?_); focus decide) | (with_reducible refine And.intro (orderOk_i ?ho) ?_; (case ho => kernel_rfl)) | ((with_reducible refine qif_t ?_ ?_); focus (simp [hlt]; done)) | ((with_reducible refine qif_f ?_ ?_); focus (simp [hlt]; done)) | (with_reducible first | refine qif_i (fun _ => ?_) (fun _ => ?_) | refine frcVs_i ?_ | refine frcRs_i ?_)) <;> (conv => whnf))))
      (refine qConv.of hB [] [(0, 0)] [] (by rfl) ?_; focus ((conv => whnf); (repeat (refine And.intro ?_ ?_; rotate_left; (conv => whnf))); exact trivial; all_goals (try exact andT)))
      all_goals rfl
section
variable {L I F : Prs} {h : Hp}
theorem Ren.glR {b b' sz : Nat} {rows rows' : List (List AV)} (hb : I.has b b' = true) (hr : RowsRen (qOf L I F) h rows rows') : Ren (qOf L I F) h (.glist b sz rows) (.glist b' sz rows') :=
  .glist _ _ _ _ _ ((Prs.has_iff I _ _).1 hb) hr.1 hr.2.1 hr.2.2
end
end Go.Proofs.Ytceohcbokbalhaa

/- A host that may be stays one: on data. No condition but lengths. -/
-- sideX: first | exact cns_bor rfl rfl rfl _ rfl
namespace Go.Proofs.Ytceohcbokbalhaa
open Go.RowKit
set_option linter.unusedVariables false
set_option linter.unusedSimpArgs false
set_option maxRecDepth 100000
set_option maxHeartbeats 4000000
theorem hostTake_l (h : Ho) (ip : Int) (s : Sg) (H : HoI h) (hip : 0 ≤ ip ∧ ip ≤ 4294967295) (hs : sgB s = true) :
    ACallL Try.prog 10 [.agg (hoR h), .val (.int .i64 ip), .agg (sgR 0 s)] [.perm] (hsA (h.take ip s)) hsH := by
  obtain ⟨l, count⟩ := h
  unfold Ho.take
  dsimp only
  cases hf : l.findIdx? (hisB ip s) with
  | some i =>
    obtain ⟨c, hi, hp, hg⟩ := find_some hf
    dsimp only
    rw [hg]
    exact hostTake_at l count ip s H hip hs i c hf hi hp
  | none => exact hostTake_new l count ip s H hip hs hf
theorem dt_AhHeK_ROWK {p : Prop} (h : p := by first | ((first | rfl | exact RowsRen.one (.cons (Ren.glR rfl (cns_gg rfl rfl rfl _)) (.cons (.val _) .nil)) | (refine RowsRen.one ?_; (repeat (refine Cells.cons ?_ ?_; focus (first | exact .val _ | exact Ren.gg rfl _ | fail))); exact Cells.nil) | (exact rowsT)); done) | fail) : p := h
theorem keeps17_l (h : Ho) (l : List Act7) (hh : HoBig h) (hl : ActLen7 l) : ACallL Try.prog 3 [.agg (shR h l)] [.perm] (.val (.bool true)) [.perm] := by
  have px := pl_cns h.conns
  have pz := pl_act7 l
  have hlen : (l.map (alR 0)).length = l.length := by simp
  have cH := heavy17_l h l hh hl
  obtain ⟨b, hb⟩ : ∃ b, hv17 h l = b := ⟨_, rfl⟩
  rw [hb] at cH
  dsimp only [shR] at cH ⊢
  cases b with
  | true =>
    refine ACallL.of_ev mixed Try.func3 rfl (fun a w => Try.call3 a w) (congrArg Array.toList Try.results3) Try.ntmps3 fun B hB => ?_
    ((conv => whnf); (repeat' ((first | (with_reducible first | refine qif_n ?_ | refine qif_t ‹_› ?_ | refine qif_f ‹_› ?_) | ((with_reducible refine qif_t ?_ ?_); focus decide) | ((with_reducible refine qif_f ?_ ?_); focus decide) | (with_reducible refine And.intro (orderOk_i ?ho) ?_; (case ho => kernel_rfl)) | ((with_reducible refine qif_t ?_ ?_); focus (simp []; done)) | ((with_reducible refine qif_f ?_ ?_); focus (simp []; done)) | (with_reducible first | refine qif_i (fun _ => ?_) (fun _ => ?_) | refine frcVs_i ?_ | refine frcRs_i ?_) | ((with_reducible refine qCall.pure (cH) ?_ ?_ ?_ ?_); rotate_left 4; exact trivial; exact plT; exact plT)) <;> (conv => whnf))))
    all_goals (refine qConv.of hB [] [(0, 0)] [] (by rfl) ?_; focus ((conv => whnf); (repeat (refine And.intro ?_ ?_; rotate_left; (conv => whnf))); exact trivial; all_goals (try exact andT)))
  | false =>
    obtain ⟨h1, h2, h3, h4⟩ := hv17_no hb
    have cR := rHost_l h (by omega) fun c hc => (h2 c hc).1
    have cC := copyHost_l h (by omega) fun c hc => (h2 c hc).1
    obtain ⟨may, hm⟩ : ∃ b, hostB h = b := ⟨_, rfl⟩
    rw [hm] at cR
    dsimp only [hoR] at cR cC
    cases may with
    | false =>
      refine ACallL.of_ev mixed Try.func3 rfl (fun a w => Try.call3 a w) (congrArg Array.toList Try.results3) Try.ntmps3 fun B hB => ?_
      ((conv => whnf); (repeat' ((first | (with_reducible first | refine qif_n ?_ | refine qif_t ‹_› ?_ | refine qif_f ‹_› ?_) | ((with_reducible refine qif_t ?_ ?_); focus decide) | ((with_reducible refine qif_f ?_ ?_); focus decide) | (with_reducible refine And.intro (orderOk_i ?ho) ?_; (case ho => kernel_rfl)) | ((with_reducible refine qif_t ?_ ?_); focus (simp []; done)) | ((with_reducible refine qif_f ?_ ?_); focus (simp []; done)) | (with_reducible first | refine qif_i (fun _ => ?_) (fun _ => ?_) | refine frcVs_i ?_ | refine frcRs_i ?_) | ((with_reducible refine qCall.pure (cH) ?_ ?_ ?_ ?_); rotate_left 4; exact trivial; exact plT; exact plT) | ((with_reducible refine qCall.pure (cR) ?_ ?_ ?_ ?_); rotate_left 4; exact trivial; exact plT; exact plT)) <;> (conv => whnf))))
      all_goals (refine qConv.of hB [] [(0, 0)] [] (by rfl) ?_; focus ((conv => whnf); (repeat (refine And.intro ?_ ?_; rotate_left; (conv => whnf))); exact trivial; all_goals (try exact andT)))
    | true =>
      have H0 := (hostB_iff h).1 hm
      refine ACallL.of_ev mixed Try.func3 rfl (fun a w => Try.call3 a w) (congrArg Array.toList Try.results3) Try.ntmps3 fun B hB => ?_
      ((conv => whnf); (repeat' ((first | (with_reducible first | refine qif_n ?_ | refine qif_t ‹_› ?_ | refine qif_f ‹_› ?_) | ((with_reducible refine qif_t ?_ ?_); focus decide) | ((with_reducible refine qif_f ?_ ?_); focus decide) | (with_reducible refine And.intro (orderOk_i ?ho) ?_; (case ho => kernel_rfl)) | ((with_reducible refine qif_t ?_ ?_); focus (simp []; done)) | ((with_reducible refine qif_f ?_ ?_); focus (simp []; done)) | (with_reducible first | refine qif_i (fun _ => ?_) (fun _ => ?_) | refine frcVs_i ?_ | refine frcRs_i ?_) | ((with_reducible refine qCall.pure (cH) ?_ ?_ ?_ ?_); rotate_left 4; exact trivial; exact plT; exact plT) | ((with_reducible refine qCall.pure (cR) ?_ ?_ ?_ ?_); rotate_left 4; exact trivial; exact plT; exact plT) | (((with_reducible refine qCall.of (cC) [] [(0, 0)] [] [(1, 2), (2, 3), (3, 4), (4, 5)] [(2, .uniq), (3, .uniq), (4, .uniq), (5, .uniq)] (.agg [.glist 2 16 (h.conns.map (cnG 3 4 5)), .val (.int .i64 h.count)]) ?hk ?_); (case hk => rfl); (conv => whnf); (repeat (refine And.intro ?_ ?_; (focus (first | exact sideT | (first | exact cns_bor rfl rfl rfl _ rfl))); (conv => whnf))); (fail_if_success (with_reducible first | refine And.intro (eqv_i ?_) ?_ | refine And.intro (ren_i ?_) ?_))))) <;> (conv => whnf))))
      refine qAW.loopS (by simp only [spine, List.cons_append, List.nil_append, List.append_assoc]; rfl) (X := Nat × Ho) (fun x => slotsOf 125 [(1, .ptr 1 0 0), (3, .ptr 2 0 0), (4, .val (.int .i64 x.1))])
        (fun x => [.perm, .live ⟨3, 27, [[.list 0 16 (h.conns.map (cnR 0)), .val (.int .i64 h.count), .list 0 13 (l.map (alR 0))]]⟩, .live ⟨2, 24, [[.glist 3 16 (x.2.conns.map (cnG 4 5 6)), .val (.int .i64 x.2.count)]]⟩, .uniq, .uniq, .uniq, .uniq]) (fun x => x.1 ≤ l.length ∧ HoI x.2) (fun x => l.length - x.1) (0, h) ⟨Nat.zero_le _, H0⟩ ?_ ?_
      · (refine qConv.of hB [(1, 1), (6, 2)] [(0, 0), (2, 3), (3, 4), (4, 5), (5, 6)] [] (by rfl) ?_; focus ((conv => whnf); (repeat (refine And.intro ?_ ?_; rotate_left; (conv => whnf))); exact trivial; all_goals (try exact andT)))
        all_goals (try exact dt_AhHeK_ROWK)
        all_goals trace_state
      · rintro E ⟨k, g⟩ ⟨hk, H⟩ hE
        dsimp only at hk H ⊢
        have w := IntWalk.i64_in (k + 1) (by omega)
        by_cases hlt : k < l.length
        · by_cases h14 : (k : Int) < 14
          · obtain ⟨a, hxk⟩ : ∃ p, l[k]? = some p := ⟨_, List.getElem?_eq_getElem hlt⟩
            have hx := h4 _ (List.mem_of_getElem? hxk)
            have hrow : (l.map (alR 0))[(k : Int).toNat]? = some (alR 0 a) := by simp [hxk]
            have pza := pl_bytes a.s.data
            have pzb := pl_bytes a.b
            have hcl : ∀ d ∈ g.conns, CnLen d := fun d hd => (H.ok d hd).1.I.cnLen
            have hgl := H.len
            have cF := fit17_l g a (by omega) hcl hx.1
            have hfd := fit7_data g a
            obtain ⟨⟨ip, s⟩, hf⟩ : ∃ r, fit7 g a = r := ⟨_, rfl⟩
            rw [hf] at cF hfd
            dsimp only at cF hfd
            dsimp only [hoR, alR, alL, sgG, sgL] at cF
            refine qAWs.cut mixed 2 (by simp only [List.take_succ_cons, List.take_zero]; rfl) (by simp only [List.drop_succ_cons, List.drop_zero]; rfl) (by simp only [chain]; rfl) rfl (X := Unit) (fun _ => slotsOf 125 [(1, .ptr 1 0 0), (3, .ptr 2 0 0), (4, .val (.int .i64 k))]) (fun _ => [.perm, .live ⟨3, 27, [[.list 0 16 (h.conns.map (cnR 0)), .val (.int .i64 h.count), .list 0 13 (l.map (alR 0))]]⟩, .live ⟨2, 24, [[.glist 3 16 (g.conns.map (cnG 4 5 6)), .val (.int .i64 g.count)]]⟩, .uniq, .uniq, .uniq, .uniq]) (fun _ => True) ?_ ?_
            · ((conv => whnf); (repeat' ((first | (with_reducible first | refine qif_n ?_ | refine qif_t ‹_› ?_ | refine qif_f ‹_› ?_) | ((with_reducible refine qif_t ?_ ?_); focus decide) | ((with_reducible refine qif_f ?_ ?_); focus decide) | (with_reducible refine And.intro (orderOk_i ?ho) ?_; (case ho => kernel_rfl)) | ((with_reducible refine qif_t ?_ ?_); focus (simp [hlt, h14]; done)) | ((with_reducible refine qif_f ?_ ?_); focus (simp [hlt, h14]; done)) | (with_reducible first | refine qif_i (fun _ => ?_) (fun _ => ?_) | refine frcVs_i ?_ | refine frcRs_i ?_)) <;> (conv => whnf))))
              refine ⟨(), trivial, ?_⟩
              (refine qConv.of hB [(1, 1), (2, 2)] [(0, 0), (3, 3), (4, 4), (5, 5), (6, 6)] [] (by rfl) ?_; focus ((conv => whnf); (repeat (refine And.intro ?_ ?_; rotate_left; (conv => whnf))); exact trivial; all_goals (try exact andT)))
              all_goals (try exact dt_AhHeK_ROWK)
              all_goals trace_state
            rintro ⟨⟩ -
            (try dsimp only)
            refine qAWs.block (by simp only [spine, List.cons_append, List.nil_append, List.append_assoc]; rfl) ?_
            rintro E1 hE1
            cases hok : (within ip 4294967295 && sgB s) with
            | false =>
              have cT := hostTake_no g ip s hcl (by omega) (by rw [hok, Bool.and_false])
              dsimp only [hoR, sgR, sgL] at cT
              refine qAWs.fin mixed (by simp only [chain]; rfl) ?_
              ((conv => whnf); (repeat' ((first | (with_reducible first | refine qif_n ?_ | refine qif_t ‹_› ?_ | refine qif_f ‹_› ?_) | ((with_reducible refine qif_t ?_ ?_); focus decide) | ((with_reducible refine qif_f ?_ ?_); focus decide) | (with_reducible refine And.intro (orderOk_i ?ho) ?_; (case ho => kernel_rfl)) | ((with_reducible refine qif_t ?_ ?_); focus (simp [hlt, h14]; done)) | ((with_reducible refine qif_f ?_ ?_); focus (simp [hlt, h14]; done)) | (with_reducible first | refine qif_i (fun _ => ?_) (fun _ => ?_) | refine frcVs_i ?_ | refine frcRs_i ?_) | ((with_reducible refine qCall.pure (num17_l _) ?_ ?_ ?_ ?_); rotate_left 4; exact trivial; exact plT; exact plT) | (refine qCase_i (idxL rfl rfl rfl rfl rfl rfl (by omega) hrow) ?_) | (((with_reducible refine qCall.of (cF) [] [(0, 0), (0, 3), (0, 4), (0, 5), (0, 6)] [] [(1, 7)] [(7, .uniq)] (.tup [.val (.int .i64 ip), .agg (sgG 7 s)]) ?hk ?_); (case hk => rfl); (conv => whnf); (repeat (refine And.intro ?_ ?_; (focus (first | exact sideT | (first | exact cns_bor rfl rfl rfl _ rfl))); (conv => whnf))); (fail_if_success (with_reducible first | refine And.intro (eqv_i ?_) ?_ | refine And.intro (ren_i ?_) ?_)))) | (((with_reducible refine qCall.reads (cT) [(0, 0), (0, 3), (0, 4), (0, 5), (0, 6), (0, 7)] [] ?hk ?_); (case hk => rfl); (conv => whnf); (repeat (refine And.intro ?_ ?_; (focus (first | exact sideT | (first | exact cns_bor rfl rfl rfl _ rfl))); (conv => whnf))); (fail_if_success (with_reducible first | refine And.intro (eqv_i ?_) ?_ | refine And.intro (ren_i ?_) ?_))))) <;> (conv => whnf))))
              subst hE1
              (conv => whnf)
              refine qRest.go mixed (by simp only [chain]; rfl) ?_
              ((conv => whnf); (repeat' ((first | (with_reducible first | refine qif_n ?_ | refine qif_t ‹_› ?_ | refine qif_f ‹_› ?_) | ((with_reducible refine qif_t ?_ ?_); focus decide) | ((with_reducible refine qif_f ?_ ?_); focus decide) | (with_reducible refine And.intro (orderOk_i ?ho) ?_; (case ho => kernel_rfl)) | ((with_reducible refine qif_t ?_ ?_); focus (simp []; done)) | ((with_reducible refine qif_f ?_ ?_); focus (simp []; done)) | (with_reducible first | refine qif_i (fun _ => ?_) (fun _ => ?_) | refine frcVs_i ?_ | refine frcRs_i ?_)) <;> (conv => whnf))))
              subst hE
              refine ⟨(k + 1, g), ⟨by dsimp only; omega, H⟩, by dsimp only; omega, ?_⟩
              (refine qConv.of hB [(1, 1), (2, 2)] [(0, 0), (3, 3), (4, 4), (5, 5), (6, 6)] [] (by rfl) ?_; focus ((conv => whnf); (repeat (refine And.intro ?_ ?_; rotate_left; (conv => whnf))); exact trivial; all_goals (try exact andT)))
              all_goals (try (first | (simp [w]; done)))
              all_goals (try exact dt_AhHeK_ROWK)
              all_goals trace_state
            | true =>
              rw [Bool.and_eq_true] at hok
              have hip : 0 ≤ ip ∧ ip ≤ 4294967295 := by simpa [within] using hok.1
              have cT := hostTake_l g ip s H hip hok.2
              have Hy := take_H H hip hok.2
              have hcnt := take_cnt g ip s
              have hmem : ∀ c ∈ g.conns, hisB ip s c = false → ∃ j, (g.take ip s).h.at_ c.link = some j ∧ (g.take ip s).h.conns[j]? = some c := fun c hc hn => Hy.at_mem (take_mem hc hn)
              obtain ⟨y, hy⟩ : ∃ y, g.take ip s = y := ⟨_, rfl⟩
              rw [hy] at cT Hy hcnt hmem
              obtain ⟨⟨yl, yn⟩, yo, yh⟩ := y
              dsimp only at hcnt hmem Hy
              have hyl := Hy.len
              dsimp only at hyl
              have hycl : ∀ d ∈ yl, CnLen d := fun d hd => (Hy.ok d hd).1.I.cnLen
              have cR2 := rHost_l ⟨yl, yn⟩ (by dsimp only; omega) hycl
              rw [(hostB_iff _).2 Hy] at cR2
              have cC2 := copyHost_l ⟨yl, yn⟩ (by dsimp only; omega) hycl
              have hgc := H.count
              have wc := IntWalk.i64_in (g.count + 1) (by omega)
              have hc1 : decide (yn < g.count) = false := by simp; omega
              have hc2 : decide (IntKind.i64.wrap (g.count + 1) < yn) = false := by rw [wc]; simp; omega
              dsimp only [hoR, sgR, sgL, hsA, hsH] at cT cR2 cC2
              refine qAWs.cut mixed 2 (by simp only [List.take_succ_cons, List.take_zero]; rfl) (by simp only [List.drop_succ_cons, List.drop_zero]; rfl) (by simp only [chain]; rfl) rfl (X := Unit) (fun _ => slotsOf 125 [(1, .ptr 1 0 0), (3, .ptr 2 0 0), (4, .val (.int .i64 k)), (5, .val (.int .i64 ip)), (6, .ptr 7 0 0), (7, .ptr 8 0 0), (10, .val (.int .i64 0))]) (fun _ => [.perm, .live ⟨3, 27, [[.list 0 16 (h.conns.map (cnR 0)), .val (.int .i64 h.count), .list 0 13 (l.map (alR 0))]]⟩, .live ⟨2, 24, [[.glist 3 16 (g.conns.map (cnG 4 5 6)), .val (.int .i64 g.count)]]⟩, .uniq, .uniq, .uniq, .uniq, .live ⟨7, 33, [sgG 13 s]⟩, .live ⟨2, 24, [[.glist 9 16 (yl.map (cnG 10 11 12)), .val (.int .i64 yn)]]⟩, .uniq, .uniq, .uniq, .uniq, .uniq]) (fun _ => True) ?_ ?_
              · ((conv => whnf); (repeat' ((first | (with_reducible first | refine qif_n ?_ | refine qif_t ‹_› ?_ | refine qif_f ‹_› ?_) | ((with_reducible refine qif_t ?_ ?_); focus decide) | ((with_reducible refine qif_f ?_ ?_); focus decide) | (with_reducible refine And.intro (orderOk_i ?ho) ?_; (case ho => kernel_rfl)) | ((with_reducible refine qif_t ?_ ?_); focus (simp [hlt, h14]; done)) | ((with_reducible refine qif_f ?_ ?_); focus (simp [hlt, h14]; done)) | (with_reducible first | refine qif_i (fun _ => ?_) (fun _ => ?_) | refine frcVs_i ?_ | refine frcRs_i ?_) | (refine qCase_i (idxL rfl rfl rfl rfl rfl rfl (by omega) hrow) ?_) | (((with_reducible refine qCall.of (cF) [] [(0, 0), (0, 3), (0, 4), (0, 5), (0, 6)] [] [(1, 7)] [(7, .uniq)] (.tup [.val (.int .i64 ip), .agg (sgG 7 s)]) ?hk ?_); (case hk => rfl); (conv => whnf); (repeat (refine And.intro ?_ ?_; (focus (first | exact sideT | (first | exact cns_bor rfl rfl rfl _ rfl))); (conv => whnf))); (fail_if_success (with_reducible first | refine And.intro (eqv_i ?_) ?_ | refine And.intro (ren_i ?_) ?_)))) | (((with_reducible refine qCall.of (cT) [] [(0, 0), (0, 3), (0, 4), (0, 5), (0, 6), (0, 7)] [] [(1, 9), (2, 10), (3, 11), (4, 12), (5, 13), (6, 14), (7, 15), (8, 16)] [(9, .uniq), (10, .uniq), (11, .uniq), (12, .uniq), (13, .uniq), (14, .uniq), (15, .uniq), (16, .uniq)] (.tup [.agg [.glist 9 16 (yl.map (cnG 10 11 12)), .val (.int .i64 yn)], .glist 13 8 (yo.map (snG 14)), .glist 15 3 (yh.map (hdG 16)), .val (.int .i64 0)]) ?hk ?_); (case hk => rfl); (conv => whnf); (repeat (refine And.intro ?_ ?_; (focus (first | exact sideT | (first | exact cns_bor rfl rfl rfl _ rfl))); (conv => whnf))); (fail_if_success (with_reducible first | refine And.intro (eqv_i ?_) ?_ | refine And.intro (ren_i ?_) ?_))))) <;> (conv => whnf))))
                refine ⟨(), trivial, ?_⟩
                (refine qConv.of hB [(1, 1), (2, 2), (8, 7), (17, 8)] [(0, 0), (3, 3), (4, 4), (5, 5), (6, 6), (9, 9), (10, 10), (11, 11), (12, 12), (7, 13)] [] (by rfl) ?_; focus ((conv => whnf); (repeat (refine And.intro ?_ ?_; rotate_left; (conv => whnf))); exact trivial; all_goals (try exact andT)))
                all_goals (try exact dt_AhHeK_ROWK)
                all_goals trace_state
              rintro ⟨⟩ -
              (try dsimp only)
              refine qAWs.cut mixed 4 (by simp only [List.take_succ_cons, List.take_zero]; rfl) (by simp only [List.drop_succ_cons, List.drop_zero]; rfl) (by simp only [chain]; rfl) rfl (X := Unit) (fun _ => slotsOf 125 [(1, .ptr 1 0 0), (3, .ptr 2 0 0), (4, .val (.int .i64 k)), (5, .val (.int .i64 ip)), (6, .ptr 7 0 0), (7, .ptr 8 0 0)]) (fun _ => [.perm, .live ⟨3, 27, [[.list 0 16 (h.conns.map (cnR 0)), .val (.int .i64 h.count), .list 0 13 (l.map (alR 0))]]⟩, .live ⟨2, 24, [[.glist 3 16 (g.conns.map (cnG 4 5 6)), .val (.int .i64 g.count)]]⟩, .uniq, .uniq, .uniq, .uniq, .live ⟨7, 33, [sgG 13 s]⟩, .live ⟨2, 24, [[.glist 9 16 (yl.map (cnG 10 11 12)), .val (.int .i64 yn)]]⟩, .uniq, .uniq, .uniq, .uniq, .uniq]) (fun _ => True) ?_ ?_
              · ((conv => whnf); (repeat' ((first | (with_reducible first | refine qif_n ?_ | refine qif_t ‹_› ?_ | refine qif_f ‹_› ?_) | ((with_reducible refine qif_t ?_ ?_); focus decide) | ((with_reducible refine qif_f ?_ ?_); focus decide) | (with_reducible refine And.intro (orderOk_i ?ho) ?_; (case ho => kernel_rfl)) | ((with_reducible refine qif_t ?_ ?_); focus (simp []; done)) | ((with_reducible refine qif_f ?_ ?_); focus (simp []; done)) | (with_reducible first | refine qif_i (fun _ => ?_) (fun _ => ?_) | refine frcVs_i ?_ | refine frcRs_i ?_) | ((with_reducible refine qCall.pure (num17_l _) ?_ ?_ ?_ ?_); rotate_left 4; exact trivial; exact plT; exact plT) | (((with_reducible refine qCall.reads (cR2) [(0, 0), (0, 9), (0, 10), (0, 11), (0, 12)] [] ?hk ?_); (case hk => rfl); (conv => whnf); (repeat (refine And.intro ?_ ?_; (focus (first | exact sideT | (first | exact cns_bor rfl rfl rfl _ rfl))); (conv => whnf))); (fail_if_success (with_reducible first | refine And.intro (eqv_i ?_) ?_ | refine And.intro (ren_i ?_) ?_))))) <;> (conv => whnf))))
                refine ⟨(), trivial, ?_⟩
                (refine qConv.of hB [(1, 1), (2, 2), (7, 7), (8, 8)] [(0, 0), (3, 3), (4, 4), (5, 5), (6, 6), (9, 9), (10, 10), (11, 11), (12, 12), (13, 13)] [] (by rfl) ?_; focus ((conv => whnf); (repeat (refine And.intro ?_ ?_; rotate_left; (conv => whnf))); exact trivial; all_goals (try exact andT)))
                all_goals (try exact dt_AhHeK_ROWK)
                all_goals trace_state
              rintro ⟨⟩ -
              (try dsimp only)
              refine qAWs.fin mixed (by simp only [chain]; rfl) ?_
              ((conv => whnf); (repeat' ((first | (with_reducible first | refine qif_n ?_ | refine qif_t ‹_› ?_ | refine qif_f ‹_› ?_) | ((with_reducible refine qif_t ?_ ?_); focus decide) | ((with_reducible refine qif_f ?_ ?_); focus decide) | (with_reducible refine And.intro (orderOk_i ?ho) ?_; (case ho => kernel_rfl)) | ((with_reducible refine qif_t ?_ ?_); focus (simp []; done)) | ((with_reducible refine qif_f ?_ ?_); focus (simp []; done)) | (with_reducible first | refine qif_i (fun _ => ?_) (fun _ => ?_) | refine frcVs_i ?_ | refine frcRs_i ?_)) <;> (conv => whnf))))
              refine qAW.loopE mixed (X := Nat) (fun i => slotsOf 125 [(1, .ptr 1 0 0), (3, .ptr 2 0 0), (4, .val (.int .i64 k)), (5, .val (.int .i64 ip)), (6, .ptr 7 0 0), (7, .ptr 8 0 0), (11, .val (.int .i64 i))]) (fun _ => [.perm, .live ⟨3, 27, [[.list 0 16 (h.conns.map (cnR 0)), .val (.int .i64 h.count), .list 0 13 (l.map (alR 0))]]⟩, .live ⟨2, 24, [[.glist 3 16 (g.conns.map (cnG 4 5 6)), .val (.int .i64 g.count)]]⟩, .uniq, .uniq, .uniq, .uniq, .live ⟨7, 33, [sgG 13 s]⟩, .live ⟨2, 24, [[.glist 9 16 (yl.map (cnG 10 11 12)), .val (.int .i64 yn)]]⟩, .uniq, .uniq, .uniq, .uniq, .uniq]) (fun i => i ≤ g.conns.length) (fun i => g.conns.length - i) 0 (Nat.zero_le _) ?_ ?_
              · (refine qConv.of hB [(1, 1), (2, 2), (7, 7), (8, 8)] [(0, 0), (3, 3), (4, 4), (5, 5), (6, 6), (9, 9), (10, 10), (11, 11), (12, 12), (13, 13)] [] (by rfl) ?_; focus ((conv => whnf); (repeat (refine And.intro ?_ ?_; rotate_left; (conv => whnf))); exact trivial; all_goals (try exact andT)))
                all_goals (try exact dt_AhHeK_ROWK)
                all_goals trace_state
              · rintro E2 i hi hE2
                have wi := IntWalk.i64_in ((i : Int) + 1) (by omega)
                have gll : (g.conns.map (cnG 4 5 6)).length = g.conns.length := by simp
                by_cases hil : i < g.conns.length
                · obtain ⟨c, hck⟩ : ∃ p, g.conns[i]? = some p := ⟨_, List.getElem?_eq_getElem hil⟩
                  have hcm := List.mem_of_getElem? hck
                  have hrowc : (g.conns.map (cnG 4 5 6))[(i : Int).toNat]? = some (cnG 4 5 6 c) := by simp [hck]
                  have cFd := rFind_l ⟨yl, yn⟩ c.link (by dsimp only; omega)
                  have ways : (c.ip != ip) = true ∨ (c.ip != ip) = false ∧ ((c.pp != s.sp) = true ∨ (c.pp != s.sp) = false ∧ ((s.dp != 1883) = true ∨ (s.dp != 1883) = false)) := by
                    cases (c.ip != ip) <;> cases (c.pp != s.sp) <;> cases (s.dp != 1883) <;> simp
                  by_cases hn : ((c.ip != ip) || ((c.pp != s.sp) || (s.dp != 1883))) = true
                  · obtain ⟨j, hj1, hj2⟩ := hmem c hcm (hisB_no hn)
                    rw [hj1] at cFd
                    dsimp only [idxJ, hoR] at cFd
                    have hjl : j < yl.length := (List.getElem?_eq_some_iff.1 hj2).1
                    have hrj : (yl.map (cnG 10 11 12))[(j : Int).toNat]? = some (cnG 10 11 12 c) := by simp [hj2]
                    have hneg : decide ((j : Int) < 0) = false := by simp
                    have cE := eqConn_l c c (hcl c hcm)
                    rw [decide_eq_true (rfl : c = c)] at cE
                    dsimp only [cnR, cnL] at cE
                    rcases ways with v1 | ⟨v1, v2 | ⟨v2, v3 | v3⟩⟩
                    · subst hE2
                      ((conv => whnf); (repeat' ((first | (with_reducible first | refine qif_n ?_ | refine qif_t ‹_› ?_ | refine qif_f ‹_› ?_) | ((with_reducible refine qif_t ?_ ?_); focus decide) | ((with_reducible refine qif_f ?_ ?_); focus decide) | (with_reducible refine And.intro (orderOk_i ?ho) ?_; (case ho => kernel_rfl)) | ((with_reducible refine qif_t ?_ ?_); focus (simp [hil, hjl]; done)) | ((with_reducible refine qif_f ?_ ?_); focus (simp [hil, hjl]; done)) | (with_reducible first | refine qif_i (fun _ => ?_) (fun _ => ?_) | refine frcVs_i ?_ | refine frcRs_i ?_) | (((with_reducible refine qCall.reads (cFd) [(0, 0), (0, 9), (0, 10), (0, 11), (0, 12)] [] ?hk ?_); (case hk => rfl); (conv => whnf); (repeat (refine And.intro ?_ ?_; (focus (first | exact sideT | (first | exact cns_bor rfl rfl rfl _ rfl))); (conv => whnf))); (fail_if_success (with_reducible first | refine And.intro (eqv_i ?_) ?_ | refine And.intro (ren_i ?_) ?_)))) | (((with_reducible refine qCall.reads (cE) [(0, 0), (0, 4), (0, 5), (0, 6), (0, 10), (0, 11), (0, 12)] [] ?hk ?_); (case hk => rfl); (conv => whnf); (repeat (refine And.intro ?_ ?_; (focus (first | exact sideT | (first | exact cns_bor rfl rfl rfl _ rfl))); (conv => whnf))); (fail_if_success (with_reducible first | refine And.intro (eqv_i ?_) ?_ | refine And.intro (ren_i ?_) ?_)))) | (refine qCase_i (idxG rfl rfl rfl rfl rfl rfl (by omega) hrowc) ?_) | (refine qCase_i (idxG rfl rfl rfl rfl rfl rfl (by omega) hrj) ?_)) <;> (conv => whnf))))
                      refine ⟨i + 1, by omega, by omega, ?_⟩
                      (refine qConv.of hB [(1, 1), (2, 2), (7, 7), (8, 8)] [(0, 0), (3, 3), (4, 4), (5, 5), (6, 6), (9, 9), (10, 10), (11, 11), (12, 12), (13, 13)] [] (by rfl) ?_; focus ((conv => whnf); (repeat (refine And.intro ?_ ?_; rotate_left; (conv => whnf))); exact trivial; all_goals (try exact andT)))
                      all_goals (try (first | (simp [wi]; done)))
                      all_goals (try exact dt_AhHeK_ROWK)
                      all_goals trace_state
                    · subst hE2
                      ((conv => whnf); (repeat' ((first | (with_reducible first | refine qif_n ?_ | refine qif_t ‹_› ?_ | refine qif_f ‹_› ?_) | ((with_reducible refine qif_t ?_ ?_); focus decide) | ((with_reducible refine qif_f ?_ ?_); focus decide) | (with_reducible refine And.intro (orderOk_i ?ho) ?_; (case ho => kernel_rfl)) | ((with_reducible refine qif_t ?_ ?_); focus (simp [hil, hjl]; done)) | ((with_reducible refine qif_f ?_ ?_); focus (simp [hil, hjl]; done)) | (with_reducible first | refine qif_i (fun _ => ?_) (fun _ => ?_) | refine frcVs_i ?_ | refine frcRs_i ?_) | (((with_reducible refine qCall.reads (cFd) [(0, 0), (0, 9), (0, 10), (0, 11), (0, 12)] [] ?hk ?_); (case hk => rfl); (conv => whnf); (repeat (refine And.intro ?_ ?_; (focus (first | exact sideT | (first | exact cns_bor rfl rfl rfl _ rfl))); (conv => whnf))); (fail_if_success (with_reducible first | refine And.intro (eqv_i ?_) ?_ | refine And.intro (ren_i ?_) ?_)))) | (((with_reducible refine qCall.reads (cE) [(0, 0), (0, 4), (0, 5), (0, 6), (0, 10), (0, 11), (0, 12)] [] ?hk ?_); (case hk => rfl); (conv => whnf); (repeat (refine And.intro ?_ ?_; (focus (first | exact sideT | (first | exact cns_bor rfl rfl rfl _ rfl))); (conv => whnf))); (fail_if_success (with_reducible first | refine And.intro (eqv_i ?_) ?_ | refine And.intro (ren_i ?_) ?_)))) | (refine qCase_i (idxG rfl rfl rfl rfl rfl rfl (by omega) hrowc) ?_) | (refine qCase_i (idxG rfl rfl rfl rfl rfl rfl (by omega) hrj) ?_)) <;> (conv => whnf))))
                      refine ⟨i + 1, by omega, by omega, ?_⟩
                      (refine qConv.of hB [(1, 1), (2, 2), (7, 7), (8, 8)] [(0, 0), (3, 3), (4, 4), (5, 5), (6, 6), (9, 9), (10, 10), (11, 11), (12, 12), (13, 13)] [] (by rfl) ?_; focus ((conv => whnf); (repeat (refine And.intro ?_ ?_; rotate_left; (conv => whnf))); exact trivial; all_goals (try exact andT)))
                      all_goals (try (first | (simp [wi]; done)))
                      all_goals (try exact dt_AhHeK_ROWK)
                      all_goals trace_state
                    · subst hE2
                      ((conv => whnf); (repeat' ((first | (with_reducible first | refine qif_n ?_ | refine qif_t ‹_› ?_ | refine qif_f ‹_› ?_) | ((with_reducible refine qif_t ?_ ?_); focus decide) | ((with_reducible refine qif_f ?_ ?_); focus decide) | (with_reducible refine And.intro (orderOk_i ?ho) ?_; (case ho => kernel_rfl)) | ((with_reducible refine qif_t ?_ ?_); focus (simp [hil, hjl]; done)) | ((with_reducible refine qif_f ?_ ?_); focus (simp [hil, hjl]; done)) | (with_reducible first | refine qif_i (fun _ => ?_) (fun _ => ?_) | refine frcVs_i ?_ | refine frcRs_i ?_) | (((with_reducible refine qCall.reads (cFd) [(0, 0), (0, 9), (0, 10), (0, 11), (0, 12)] [] ?hk ?_); (case hk => rfl); (conv => whnf); (repeat (refine And.intro ?_ ?_; (focus (first | exact sideT | (first | exact cns_bor rfl rfl rfl _ rfl))); (conv => whnf))); (fail_if_success (with_reducible first | refine And.intro (eqv_i ?_) ?_ | refine And.intro (ren_i ?_) ?_)))) | (((with_reducible refine qCall.reads (cE) [(0, 0), (0, 4), (0, 5), (0, 6), (0, 10), (0, 11), (0, 12)] [] ?hk ?_); (case hk => rfl); (conv => whnf); (repeat (refine And.intro ?_ ?_; (focus (first | exact sideT | (first | exact cns_bor rfl rfl rfl _ rfl))); (conv => whnf))); (fail_if_success (with_reducible first | refine And.intro (eqv_i ?_) ?_ | refine And.intro (ren_i ?_) ?_)))) | (refine qCase_i (idxG rfl rfl rfl rfl rfl rfl (by omega) hrowc) ?_) | (refine qCase_i (idxG rfl rfl rfl rfl rfl rfl (by omega) hrj) ?_)) <;> (conv => whnf))))
                      refine ⟨i + 1, by omega, by omega, ?_⟩
                      (refine qConv.of hB [(1, 1), (2, 2), (7, 7), (8, 8)] [(0, 0), (3, 3), (4, 4), (5, 5), (6, 6), (9, 9), (10, 10), (11, 11), (12, 12), (13, 13)] [] (by rfl) ?_; focus ((conv => whnf); (repeat (refine And.intro ?_ ?_; rotate_left; (conv => whnf))); exact trivial; all_goals (try exact andT)))
                      all_goals (try (first | (simp [wi]; done)))
                      all_goals (try exact dt_AhHeK_ROWK)
                      all_goals trace_state
                    · rw [v1, v2, v3] at hn
                      cases hn
                  · have hn : ((c.ip != ip) || ((c.pp != s.sp) || (s.dp != 1883))) = false := by simpa using hn
                    rw [Bool.or_eq_false_iff, Bool.or_eq_false_iff] at hn
                    obtain ⟨v1, v2, v3⟩ := hn
                    obtain ⟨v, hv⟩ : ∃ v, idxJ (Ho.at_ ⟨yl, yn⟩ c.link) = v := ⟨_, rfl⟩
                    rw [hv] at cFd
                    dsimp only [hoR] at cFd
                    subst hE2
                    ((conv => whnf); (repeat' ((first | (with_reducible first | refine qif_n ?_ | refine qif_t ‹_› ?_ | refine qif_f ‹_› ?_) | ((with_reducible refine qif_t ?_ ?_); focus decide) | ((with_reducible refine qif_f ?_ ?_); focus decide) | (with_reducible refine And.intro (orderOk_i ?ho) ?_; (case ho => kernel_rfl)) | ((with_reducible refine qif_t ?_ ?_); focus (simp [hil]; done)) | ((with_reducible refine qif_f ?_ ?_); focus (simp [hil]; done)) | (with_reducible first | refine qif_i (fun _ => ?_) (fun _ => ?_) | refine frcVs_i ?_ | refine frcRs_i ?_) | (((with_reducible refine qCall.reads (cFd) [(0, 0), (0, 9), (0, 10), (0, 11), (0, 12)] [] ?hk ?_); (case hk => rfl); (conv => whnf); (repeat (refine And.intro ?_ ?_; (focus (first | exact sideT | (first | exact cns_bor rfl rfl rfl _ rfl))); (conv => whnf))); (fail_if_success (with_reducible first | refine And.intro (eqv_i ?_) ?_ | refine And.intro (ren_i ?_) ?_)))) | (refine qCase_i (idxG rfl rfl rfl rfl rfl rfl (by omega) hrowc) ?_)) <;> (conv => whnf))))
                    refine ⟨i + 1, by omega, by omega, ?_⟩
                    (refine qConv.of hB [(1, 1), (2, 2), (7, 7), (8, 8)] [(0, 0), (3, 3), (4, 4), (5, 5), (6, 6), (9, 9), (10, 10), (11, 11), (12, 12), (13, 13)] [] (by rfl) ?_; focus ((conv => whnf); (repeat (refine And.intro ?_ ?_; rotate_left; (conv => whnf))); exact trivial; all_goals (try exact andT)))
                    all_goals (try (first | (simp [wi]; done)))
                    all_goals (try exact dt_AhHeK_ROWK)
                    all_goals trace_state
                · have e : i = g.conns.length := by omega
                  subst e
                  subst hE2
                  ((conv => whnf); (repeat' ((first | (with_reducible first | refine qif_n ?_ | refine qif_t ‹_› ?_ | refine qif_f ‹_› ?_) | ((with_reducible refine qif_t ?_ ?_); focus decide) | ((with_reducible refine qif_f ?_ ?_); focus decide) | (with_reducible refine And.intro (orderOk_i ?ho) ?_; (case ho => kernel_rfl)) | ((with_reducible refine qif_t ?_ ?_); focus (simp [hil]; done)) | ((with_reducible refine qif_f ?_ ?_); focus (simp [hil]; done)) | (with_reducible first | refine qif_i (fun _ => ?_) (fun _ => ?_) | refine frcVs_i ?_ | refine frcRs_i ?_) | (((with_reducible refine qCall.of (cC2) [] [(0, 0), (0, 9), (0, 10), (0, 11), (0, 12)] [] [(1, 14), (2, 15), (3, 16), (4, 17)] [(14, .uniq), (15, .uniq), (16, .uniq), (17, .uniq)] (.agg [.glist 14 16 (yl.map (cnG 15 16 17)), .val (.int .i64 yn)]) ?hk ?_); (case hk => rfl); (conv => whnf); (repeat (refine And.intro ?_ ?_; (focus (first | exact sideT | (first | exact cns_bor rfl rfl rfl _ rfl))); (conv => whnf))); (fail_if_success (with_reducible first | refine And.intro (eqv_i ?_) ?_ | refine And.intro (ren_i ?_) ?_))))) <;> (conv => whnf))))
                  subst hE1
                  (conv => whnf)
                  refine qRest.go mixed (by simp only [chain]; rfl) ?_
                  ((conv => whnf); (repeat' ((first | (with_reducible first | refine qif_n ?_ | refine qif_t ‹_› ?_ | refine qif_f ‹_› ?_) | ((with_reducible refine qif_t ?_ ?_); focus decide) | ((with_reducible refine qif_f ?_ ?_); focus decide) | (with_reducible refine And.intro (orderOk_i ?ho) ?_; (case ho => kernel_rfl)) | ((with_reducible refine qif_t ?_ ?_); focus (simp []; done)) | ((with_reducible refine qif_f ?_ ?_); focus (simp []; done)) | (with_reducible first | refine qif_i (fun _ => ?_) (fun _ => ?_) | refine frcVs_i ?_ | refine frcRs_i ?_)) <;> (conv => whnf))))
                  subst hE
                  refine ⟨(k + 1, ⟨yl, yn⟩), ⟨by dsimp only; omega, Hy⟩, by dsimp only; omega, ?_⟩
                  (refine qConv.of hB [(1, 1), (2, 2)] [(0, 0), (14, 3), (15, 4), (16, 5), (17, 6)] [] (by rfl) ?_; focus ((conv => whnf); (repeat (refine And.intro ?_ ?_; rotate_left; (conv => whnf))); exact trivial; all_goals (try exact andT)))
                  all_goals (try (first | (simp [w]; done)))
                  all_goals (try exact dt_AhHeK_ROWK)
                  all_goals trace_state
          · refine qAWs.fin mixed (by simp only [chain]; rfl) ?_
            subst hE
            ((conv => whnf); (repeat' ((first | (with_reducible first | refine qif_n ?_ | refine qif_t ‹_› ?_ | refine qif_f ‹_› ?_) | ((with_reducible refine qif_t ?_ ?_); focus decide) | ((with_reducible refine qif_f ?_ ?_); focus decide) | (with_reducible refine And.intro (orderOk_i ?ho) ?_; (case ho => kernel_rfl)) | ((with_reducible refine qif_t ?_ ?_); focus (simp [hlt, h14]; done)) | ((with_reducible refine qif_f ?_ ?_); focus (simp [hlt, h14]; done)) | (with_reducible first | refine qif_i (fun _ => ?_) (fun _ => ?_) | refine frcVs_i ?_ | refine frcRs_i ?_) | ((with_reducible refine qCall.pure (wakes17_l) ?_ ?_ ?_ ?_); rotate_left 4; exact trivial; exact plT; exact plT)) <;> (conv => whnf))))
            all_goals (refine qConv.of hB [] [(0, 0)] [] (by rfl) ?_; focus ((conv => whnf); (repeat (refine And.intro ?_ ?_; rotate_left; (conv => whnf))); exact trivial; all_goals (try exact andT)))
        · refine qAWs.fin mixed (by simp only [chain]; rfl) ?_
          subst hE
          ((conv => whnf); (repeat' ((first | (with_reducible first | refine qif_n ?_ | refine qif_t ‹_› ?_ | refine qif_f ‹_› ?_) | ((with_reducible refine qif_t ?_ ?_); focus decide) | ((with_reducible refine qif_f ?_ ?_); focus decide) | (with_reducible refine And.intro (orderOk_i ?ho) ?_; (case ho => kernel_rfl)) | ((with_reducible refine qif_t ?_ ?_); focus (simp [hlt]; done)) | ((with_reducible refine qif_f ?_ ?_); focus (simp [hlt]; done)) | (with_reducible first | refine qif_i (fun _ => ?_) (fun _ => ?_) | refine frcVs_i ?_ | refine frcRs_i ?_) | ((with_reducible refine qCall.pure (wakes17_l) ?_ ?_ ?_ ?_); rotate_left 4; exact trivial; exact plT; exact plT)) <;> (conv => whnf))))
          all_goals (refine qConv.of hB [] [(0, 0)] [] (by rfl) ?_; focus ((conv => whnf); (repeat (refine And.intro ?_ ?_; rotate_left; (conv => whnf))); exact trivial; all_goals (try exact andT)))
end Go.Proofs.Ytceohcbokbalhaa

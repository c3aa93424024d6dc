/- Contracts and plain laws, one behind the other: AhHeF, AhHoC, AhTcpS, AhTcpV, AhHoP. Conditions are said at each. -/
import Derived.Test.YtceohcbokbalhaaGreatPkAP
import Derived.Test.YtceohcbokbalhaaGreatPkAM
import Derived.Test.YtceohcbokbalhaaGreatPkAN
import Derived.Test.YtceohcbokbalhaaGreatPkAG
/- A segment made to fit a host's connection: on data. Conditions: lengths. -/
namespace Go.Proofs.YtceohcbokbalhaaGreat
open Go.RowKit
set_option linter.unusedVariables false
set_option linter.unusedSimpArgs false
set_option maxRecDepth 100000
set_option maxHeartbeats 4000000
end Go.Proofs.YtceohcbokbalhaaGreat

/- Hosts copied, compared; segments with whom they are for compared: on data. Conditions: lengths. -/
namespace Go.Proofs.YtceohcbokbalhaaGreat
open Go.RowKit
set_option linter.unusedVariables false
set_option linter.unusedSimpArgs false
set_option maxRecDepth 100000
set_option maxHeartbeats 4000000
abbrev cnP (o p d : Nat) (c : Cn) : List AV := cnL (bL o c.out) (.list p 2 (c.parts.map (prt d))) c
section
variable {L I F : Prs} {h : Hp} {o p d o' p' d' r : Nat}
theorem cn_pp (h0 : I.has o o' = true) (h1 : I.has p p' = true) (h2 : I.has d d' = true) (c : Cn) : Cells (qOf L I F) h (cnP o p d c) (cnP o' p' d' c) :=
  .cons (.val _) (.cons (.val _) (.cons (.val _) (.cons (.val _) (.cons (.val _) (.cons (.val _) (.cons (.val _) (.cons (.val _) (.cons (Ren.ll h0 c.out) (.cons (.val _) (.cons (Ren.pll h1 h2 c.parts) (.cons (.val _) (.cons (.val _) (.cons (.val _) (.cons (.val _) (.cons (.val _) .nil)))))))))))))))
theorem cn_gp (h0 : I.has o o' = true) (h1 : I.has p p' = true) (h2 : I.has d d' = true) (c : Cn) : Cells (qOf L I F) h (cnG o p d c) (cnP o' p' d' c) :=
  .cons (.val _) (.cons (.val _) (.cons (.val _) (.cons (.val _) (.cons (.val _) (.cons (.val _) (.cons (.val _) (.cons (.val _) (.cons (Ren.g2 h0 c.out) (.cons (.val _) (.cons (Ren.pg2 h1 h2 c.parts) (.cons (.val _) (.cons (.val _) (.cons (.val _) (.cons (.val _) (.cons (.val _) .nil)))))))))))))))
theorem cns_pp (h0 : I.has o o' = true) (h1 : I.has p p' = true) (h2 : I.has d d' = true) (l : List Cn) : RowsRen (qOf L I F) h (l.map (cnP o p d)) (l.map (cnP o' p' d')) := RowsRen.mapF l _ _ fun c _ => cn_pp h0 h1 h2 c
theorem cns_gp (h0 : I.has o o' = true) (h1 : I.has p p' = true) (h2 : I.has d d' = true) (l : List Cn) : RowsRen (qOf L I F) h (l.map (cnG o p d)) (l.map (cnP o' p' d')) := RowsRen.mapF l _ _ fun c _ => cn_gp h0 h1 h2 c
theorem cns_gg2 {o2 p2 d2 : Nat} (h0 : I.has o o' = true) (h1 : I.has p p' = true) (h2 : I.has d d' = true) (g0 : I.has o2 o' = true) (g1 : I.has p2 p' = true) (g2 : I.has d2 d' = true) (l : List Cn) (c : Cn) :
    RowsRen (qOf L I F) h (l.map (cnG o p d) ++ [cnG o2 p2 d2 c]) ((l ++ [c]).map (cnG o' p' d')) :=
  RowsRen.castR (by rw [List.map_append]) (RowsRen.app (cns_gg h0 h1 h2 l) (cns_gg g0 g1 g2 [c]))
end
theorem copyConns_l (l : List Cn) (hl : l.length ≤ 100000) (hc : ∀ c ∈ l, CnLen c) : ACallL Tryz.prog 18 [.list 0 16 (l.map (cnR 0))] [.perm] (.glist 1 16 (l.map (cnG 2 3 4))) [.perm, .uniq, .uniq, .uniq, .uniq] := by
  have ll : (l.map (cnR 0)).length = l.length := by simp
  have px := pl_cns l
  refine ACallL.of_ev mixed Tryz.func18 rfl (fun a w => Tryz.call18 a w) (congrArg Array.toList Tryz.results18) Tryz.ntmps18 fun B hB => ?_
  ((conv => whnf); (repeat' ((first | (with_reducible first | refine qif_n ?_ | refine qif_t ‹_› ?_ | refine qif_f ‹_› ?_) | ((with_reducible refine qif_t ?_ ?_); focus decide) | ((with_reducible refine qif_f ?_ ?_); focus decide) | (with_reducible refine And.intro (orderOk_i ?ho) ?_; (case ho => kernel_rfl)) | (with_reducible first | refine qif_i (fun _ => ?_) (fun _ => ?_) | refine frcVs_i ?_ | refine frcRs_i ?_)) <;> (conv => whnf))))
  refine qAW.loopE mixed (X := Nat) (fun k => slotsOf 20 [(0, .list 0 16 (l.map (cnR 0))), (3, .glist 1 16 ((l.take k).map (cnG 2 3 4))), (4, .val (.int .i64 k))]) (fun k => [.perm, .uniq, .uniq, .uniq, .uniq])
    (fun k => k ≤ l.length) (fun k => l.length - k) 0 (Nat.zero_le _) ?_ ?_
  · (refine qConv.of hB [] [(0, 0)] [] (by rfl) ?_; focus ((conv => whnf); (repeat (refine And.intro ?_ ?_; rotate_left; (conv => whnf))); exact trivial; all_goals (try exact andT)))
    all_goals first | rfl | (exact rowsT)
  · rintro E k hk hE
    by_cases hlt : k < l.length
    · obtain ⟨c, hck⟩ : ∃ p, l[k]? = some p := ⟨_, List.getElem?_eq_getElem hlt⟩
      have hrow : (l.map (cnR 0))[(k : Int).toNat]? = some (cnR 0 c) := by simp [hck]
      have p1 := pl_bytes c.out
      have p2 := pl_parts c.parts
      have w := IntWalk.i64_in (k + 1) (by omega)
      have cC := copyConn_l c (hc c (List.mem_of_getElem? hck))
      have hsz : ((l.take k).map (cnG 2 3 4)).length + 1 ≤ 100001 := by simp; omega
      dsimp only [cnR, cnL] at cC
      subst hE
      ((conv => whnf); (repeat' ((first | (with_reducible first | refine qif_n ?_ | refine qif_t ‹_› ?_ | refine qif_f ‹_› ?_) | ((with_reducible refine qif_t ?_ ?_); focus decide) | ((with_reducible refine qif_f ?_ ?_); focus decide) | (with_reducible refine And.intro (orderOk_i ?ho) ?_; (case ho => kernel_rfl)) | ((with_reducible refine qif_t ?_ ?_); focus (simp [hlt]; done)) | ((with_reducible refine qif_f ?_ ?_); focus (simp [hlt]; done)) | (with_reducible first | refine qif_i (fun _ => ?_) (fun _ => ?_) | refine frcVs_i ?_ | refine frcRs_i ?_) | (refine qCase_i (idxL rfl rfl rfl rfl rfl rfl (by omega) hrow) ?_) | (((with_reducible refine qCall.of (cC) [] [(0, 0)] [] [(1, 5), (2, 6), (3, 7)] [(5, .uniq), (6, .uniq), (7, .uniq)] (.agg (cnG 5 6 7 c)) ?hk ?_); (case hk => rfl); (conv => whnf); (repeat (refine And.intro ?_ ?_; exact sideT; (conv => whnf))); (fail_if_success (with_reducible first | refine And.intro (eqv_i ?_) ?_ | refine And.intro (ren_i ?_) ?_)))) | (refine qCase_i (apG (nb := 160) rfl rfl rfl rfl rfl rfl rfl rfl rfl rfl ⟨Nat.zero_lt_succ _, Nat.zero_lt_succ _, rfl⟩ rfl (Nat.le_trans (Nat.mul_le_mul_right _ hsz) (by decide))) ?_)) <;> (conv => whnf))))
      refine ⟨k + 1, by omega, by omega, ?_⟩
      (refine qConv.of hB [] [(0, 0), (9, 1), (2, 2), (5, 2), (3, 3), (6, 3), (4, 4), (7, 4)] [] (by rfl) ?_; focus ((conv => whnf); (repeat (refine And.intro ?_ ?_; rotate_left; (conv => whnf))); exact trivial; all_goals (try exact andT)))
      all_goals first | rfl | (simp [w]; done) | (rw [take_snoc hck]; exact cns_gg2 rfl rfl rfl rfl rfl rfl _ _) | (exact rowsT) | trace_state
    · have e : l.take k = l := List.take_of_length_le (by omega)
      rw [e]
      subst hE
      ((conv => whnf); (repeat' ((first | (with_reducible first | refine qif_n ?_ | refine qif_t ‹_› ?_ | refine qif_f ‹_› ?_) | ((with_reducible refine qif_t ?_ ?_); focus decide) | ((with_reducible refine qif_f ?_ ?_); focus decide) | (with_reducible refine And.intro (orderOk_i ?ho) ?_; (case ho => kernel_rfl)) | ((with_reducible refine qif_t ?_ ?_); focus (simp [hlt]; done)) | ((with_reducible refine qif_f ?_ ?_); focus (simp [hlt]; done)) | (with_reducible first | refine qif_i (fun _ => ?_) (fun _ => ?_) | refine frcVs_i ?_ | refine frcRs_i ?_)) <;> (conv => whnf))))
      (refine qConv.of hB [] [(0, 0), (1, 1), (2, 2), (3, 3), (4, 4)] [] (by rfl) ?_; focus ((conv => whnf); (repeat (refine And.intro ?_ ?_; rotate_left; (conv => whnf))); exact trivial; all_goals (try exact andT)))
      all_goals first | rfl | exact cns_gg rfl rfl rfl _ | trace_state
theorem copyHost_l (h : Ho) (hl : h.conns.length ≤ 100000) (hc : ∀ c ∈ h.conns, CnLen c) : ACallL Tryz.prog 11 [.agg (hoR h)] [.perm] (.agg [.glist 1 16 (h.conns.map (cnG 2 3 4)), .val (.int .i64 h.count)]) [.perm, .uniq, .uniq, .uniq, .uniq] := by
  have px := pl_cns h.conns
  have cC := copyConns_l h.conns hl hc
  dsimp only [hoR]
  refine ACallL.of_ev mixed Tryz.func11 rfl (fun a w => Tryz.call11 a w) (congrArg Array.toList Tryz.results11) Tryz.ntmps11 fun B hB => ?_
  ((conv => whnf); (repeat' ((first | (with_reducible first | refine qif_n ?_ | refine qif_t ‹_› ?_ | refine qif_f ‹_› ?_) | ((with_reducible refine qif_t ?_ ?_); focus decide) | ((with_reducible refine qif_f ?_ ?_); focus decide) | (with_reducible refine And.intro (orderOk_i ?ho) ?_; (case ho => kernel_rfl)) | ((with_reducible refine qif_t ?_ ?_); focus (simp []; done)) | ((with_reducible refine qif_f ?_ ?_); focus (simp []; done)) | (with_reducible first | refine qif_i (fun _ => ?_) (fun _ => ?_) | refine frcVs_i ?_ | refine frcRs_i ?_) | (((with_reducible refine qCall.of (cC) [] [(0, 0)] [] [(1, 4), (2, 5), (3, 6), (4, 7)] [(4, .uniq), (5, .uniq), (6, .uniq), (7, .uniq)] (.glist 4 16 (h.conns.map (cnG 5 6 7))) ?hk ?_); (case hk => rfl); (conv => whnf); (repeat (refine And.intro ?_ ?_; exact sideT; (conv => whnf))); (fail_if_success (with_reducible first | refine And.intro (eqv_i ?_) ?_ | refine And.intro (ren_i ?_) ?_))))) <;> (conv => whnf))))
  (refine qConv.of hB [] [(0, 0), (4, 1), (5, 2), (6, 3), (7, 4)] [] (by rfl) ?_; focus ((conv => whnf); (repeat (refine And.intro ?_ ?_; rotate_left; (conv => whnf))); exact trivial; all_goals (try exact andT)))
  all_goals first | rfl | exact cns_gg rfl rfl rfl _ | trace_state
theorem eqConns_l (l : List Cn) (hl : l.length ≤ 100000) (hc : ∀ c ∈ l, CnLen c) : ACallL Tryz.prog 79 [.list 0 16 (l.map (cnR 0)), .list 0 16 (l.map (cnR 0))] [.perm] (.val (.bool true)) [.perm] := by
  have ll : (l.map (cnR 0)).length = l.length := by simp
  have px := pl_cns l
  refine ACallL.of_ev mixed Tryz.func79 rfl (fun a w => Tryz.call79 a w) (congrArg Array.toList Tryz.results79) Tryz.ntmps79 fun B hB => ?_
  ((conv => whnf); (repeat' ((first | (with_reducible first | refine qif_n ?_ | refine qif_t ‹_› ?_ | refine qif_f ‹_› ?_) | ((with_reducible refine qif_t ?_ ?_); focus decide) | ((with_reducible refine qif_f ?_ ?_); focus decide) | (with_reducible refine And.intro (orderOk_i ?ho) ?_; (case ho => kernel_rfl)) | ((with_reducible refine qif_t ?_ ?_); focus (simp []; done)) | ((with_reducible refine qif_f ?_ ?_); focus (simp []; done)) | (with_reducible first | refine qif_i (fun _ => ?_) (fun _ => ?_) | refine frcVs_i ?_ | refine frcRs_i ?_)) <;> (conv => whnf))))
  refine qAW.loopE mixed (X := Nat) (fun k => slotsOf 27 [(0, .list 0 16 (l.map (cnR 0))), (1, .list 0 16 (l.map (cnR 0))), (5, .val (.int .i64 k))]) (fun k => [.perm])
    (fun k => k ≤ l.length) (fun k => l.length - k) 0 (Nat.zero_le _) ?_ ?_
  · (refine qConv.of hB [] [(0, 0)] [] (by rfl) ?_; focus ((conv => whnf); (repeat (refine And.intro ?_ ?_; rotate_left; (conv => whnf))); exact trivial; all_goals (try exact andT)))
    all_goals rfl
  · rintro E k hk hE
    by_cases hlt : k < l.length
    · obtain ⟨c, hck⟩ : ∃ p, l[k]? = some p := ⟨_, List.getElem?_eq_getElem hlt⟩
      have hrow : (l.map (cnR 0))[(k : Int).toNat]? = some (cnR 0 c) := by simp [hck]
      have p1 := pl_bytes c.out
      have p2 := pl_parts c.parts
      have w := IntWalk.i64_in (k + 1) (by omega)
      have cE := eqConn_l c c (hc c (List.mem_of_getElem? hck))
      rw [decide_eq_true (rfl : c = c)] at cE
      dsimp only [cnR, cnL] at cE
      subst hE
      ((conv => whnf); (repeat' ((first | (with_reducible first | refine qif_n ?_ | refine qif_t ‹_› ?_ | refine qif_f ‹_› ?_) | ((with_reducible refine qif_t ?_ ?_); focus decide) | ((with_reducible refine qif_f ?_ ?_); focus decide) | (with_reducible refine And.intro (orderOk_i ?ho) ?_; (case ho => kernel_rfl)) | ((with_reducible refine qif_t ?_ ?_); focus (simp [hlt]; done)) | ((with_reducible refine qif_f ?_ ?_); focus (simp [hlt]; done)) | (with_reducible first | refine qif_i (fun _ => ?_) (fun _ => ?_) | refine frcVs_i ?_ | refine frcRs_i ?_) | ((with_reducible refine qCall.pure (cE) ?_ ?_ ?_ ?_); rotate_left 4; exact trivial; exact plT; exact plT) | (refine qCase_i (idxL rfl rfl rfl rfl rfl rfl (by omega) hrow) ?_)) <;> (conv => whnf))))
      refine ⟨k + 1, by omega, by omega, ?_⟩
      (refine qConv.of hB [] [(0, 0)] [] (by rfl) ?_; focus ((conv => whnf); (repeat (refine And.intro ?_ ?_; rotate_left; (conv => whnf))); exact trivial; all_goals (try exact andT)))
      all_goals first | rfl | (simp [w]; done)
    · subst hE
      ((conv => whnf); (repeat' ((first | (with_reducible first | refine qif_n ?_ | refine qif_t ‹_› ?_ | refine qif_f ‹_› ?_) | ((with_reducible refine qif_t ?_ ?_); focus decide) | ((with_reducible refine qif_f ?_ ?_); focus decide) | (with_reducible refine And.intro (orderOk_i ?ho) ?_; (case ho => kernel_rfl)) | ((with_reducible refine qif_t ?_ ?_); focus (simp [hlt]; done)) | ((with_reducible refine qif_f ?_ ?_); focus (simp [hlt]; done)) | (with_reducible first | refine qif_i (fun _ => ?_) (fun _ => ?_) | refine frcVs_i ?_ | refine frcRs_i ?_)) <;> (conv => whnf))))
      (refine qConv.of hB [] [(0, 0)] [] (by rfl) ?_; focus ((conv => whnf); (repeat (refine And.intro ?_ ?_; rotate_left; (conv => whnf))); exact trivial; all_goals (try exact andT)))
theorem eqHost_l (h : Ho) (hl : h.conns.length ≤ 100000) (hc : ∀ c ∈ h.conns, CnLen c) : ACallL Tryz.prog 39 [.agg (hoR h), .agg (hoR h)] [.perm] (.val (.bool true)) [.perm] := by
  have px := pl_cns h.conns
  have cE := eqConns_l h.conns hl hc
  dsimp only [hoR]
  refine ACallL.of_ev mixed Tryz.func39 rfl (fun a w => Tryz.call39 a w) (congrArg Array.toList Tryz.results39) Tryz.ntmps39 fun B hB => ?_
  ((conv => whnf); (repeat' ((first | (with_reducible first | refine qif_n ?_ | refine qif_t ‹_› ?_ | refine qif_f ‹_› ?_) | ((with_reducible refine qif_t ?_ ?_); focus decide) | ((with_reducible refine qif_f ?_ ?_); focus decide) | (with_reducible refine And.intro (orderOk_i ?ho) ?_; (case ho => kernel_rfl)) | ((with_reducible refine qif_t ?_ ?_); focus (simp []; done)) | ((with_reducible refine qif_f ?_ ?_); focus (simp []; done)) | (with_reducible first | refine qif_i (fun _ => ?_) (fun _ => ?_) | refine frcVs_i ?_ | refine frcRs_i ?_) | ((with_reducible refine qCall.pure (cE) ?_ ?_ ?_ ?_); rotate_left 4; exact trivial; exact plT; exact plT)) <;> (conv => whnf))))
  all_goals (refine qConv.of hB [] [(0, 0)] [] (by rfl) ?_; focus ((conv => whnf); (repeat (refine And.intro ?_ ?_; rotate_left; (conv => whnf))); exact trivial; all_goals (try exact andT)))
theorem pl_sns (l : List (Int × Sg)) : PlRows (l.map (snR 0)) := PlRows.mapF l (snR 0) fun p _ => by
  have := pl_bytes p.2.data
  exact plT
theorem pl_hds (l : List Hd) : PlRows (l.map (hdR 0)) := PlRows.mapF l (hdR 0) fun p _ => by
  have := pl_bytes p.data
  exact plT
theorem eqHeards_l (l : List Hd) (hl : l.length ≤ 100000) (hc : ∀ x ∈ l, x.data.length ≤ 100000000) : ACallL Tryz.prog 41 [.list 0 3 (l.map (hdR 0)), .list 0 3 (l.map (hdR 0))] [.perm] (.val (.bool true)) [.perm] := by
  have ll : (l.map (hdR 0)).length = l.length := by simp
  have px := pl_hds l
  have cH : ∀ x : Hd, x.data.length ≤ 100000000 → ACallL Tryz.prog 80 [.agg (hdR 0 x), .agg (hdR 0 x)] [.perm] (.val (.bool true)) [.perm] := fun x hx => by
    obtain ⟨a, xs, f⟩ := x
    have cB := eqBytes_l xs xs hx
    have p1 := pl_bytes xs
    dsimp only [hdR]
    refine ACallL.of_ev mixed Tryz.func80 rfl (fun a w => Tryz.call80 a w) (congrArg Array.toList Tryz.results80) Tryz.ntmps80 fun B hB => ?_
    ((conv => whnf); (repeat' ((first | (with_reducible first | refine qif_n ?_ | refine qif_t ‹_› ?_ | refine qif_f ‹_› ?_) | ((with_reducible refine qif_t ?_ ?_); focus decide) | ((with_reducible refine qif_f ?_ ?_); focus decide) | (with_reducible refine And.intro (orderOk_i ?ho) ?_; (case ho => kernel_rfl)) | ((with_reducible refine qif_t ?_ ?_); focus (simp []; done)) | ((with_reducible refine qif_f ?_ ?_); focus (simp []; done)) | (with_reducible first | refine qif_i (fun _ => ?_) (fun _ => ?_) | refine frcVs_i ?_ | refine frcRs_i ?_) | ((with_reducible refine qCall.pure (cB) ?_ ?_ ?_ ?_); rotate_left 4; exact trivial; exact plT; exact plT) | (refine qOpen.eqb leaf4 rfl rfl rfl ?_)) <;> (conv => whnf))))
    all_goals (refine qConv.of hB [] [(0, 0)] [] (by rfl) ?_; focus ((conv => whnf); (repeat (refine And.intro ?_ ?_; rotate_left; (conv => whnf))); exact trivial; all_goals (try exact andT)))
    all_goals simp
  refine ACallL.of_ev mixed Tryz.func41 rfl (fun a w => Tryz.call41 a w) (congrArg Array.toList Tryz.results41) Tryz.ntmps41 fun B hB => ?_
  ((conv => whnf); (repeat' ((first | (with_reducible first | refine qif_n ?_ | refine qif_t ‹_› ?_ | refine qif_f ‹_› ?_) | ((with_reducible refine qif_t ?_ ?_); focus decide) | ((with_reducible refine qif_f ?_ ?_); focus decide) | (with_reducible refine And.intro (orderOk_i ?ho) ?_; (case ho => kernel_rfl)) | ((with_reducible refine qif_t ?_ ?_); focus (simp []; done)) | ((with_reducible refine qif_f ?_ ?_); focus (simp []; done)) | (with_reducible first | refine qif_i (fun _ => ?_) (fun _ => ?_) | refine frcVs_i ?_ | refine frcRs_i ?_)) <;> (conv => whnf))))
  refine qAW.loopE mixed (X := Nat) (fun k => slotsOf 27 [(0, .list 0 3 (l.map (hdR 0))), (1, .list 0 3 (l.map (hdR 0))), (5, .val (.int .i64 k))]) (fun k => [.perm])
    (fun k => k ≤ l.length) (fun k => l.length - k) 0 (Nat.zero_le _) ?_ ?_
  · (refine qConv.of hB [] [(0, 0)] [] (by rfl) ?_; focus ((conv => whnf); (repeat (refine And.intro ?_ ?_; rotate_left; (conv => whnf))); exact trivial; all_goals (try exact andT)))
    all_goals rfl
  · rintro E k hk hE
    by_cases hlt : k < l.length
    · obtain ⟨x, hck⟩ : ∃ p, l[k]? = some p := ⟨_, List.getElem?_eq_getElem hlt⟩
      have hrow : (l.map (hdR 0))[(k : Int).toNat]? = some (hdR 0 x) := by simp [hck]
      have p1 := pl_bytes x.data
      have w := IntWalk.i64_in (k + 1) (by omega)
      have cE := cH x (hc x (List.mem_of_getElem? hck))
      dsimp only [hdR] at cE
      subst hE
      ((conv => whnf); (repeat' ((first | (with_reducible first | refine qif_n ?_ | refine qif_t ‹_› ?_ | refine qif_f ‹_› ?_) | ((with_reducible refine qif_t ?_ ?_); focus decide) | ((with_reducible refine qif_f ?_ ?_); focus decide) | (with_reducible refine And.intro (orderOk_i ?ho) ?_; (case ho => kernel_rfl)) | ((with_reducible refine qif_t ?_ ?_); focus (simp [hlt]; done)) | ((with_reducible refine qif_f ?_ ?_); focus (simp [hlt]; done)) | (with_reducible first | refine qif_i (fun _ => ?_) (fun _ => ?_) | refine frcVs_i ?_ | refine frcRs_i ?_) | ((with_reducible refine qCall.pure (cE) ?_ ?_ ?_ ?_); rotate_left 4; exact trivial; exact plT; exact plT) | (refine qCase_i (idxL rfl rfl rfl rfl rfl rfl (by omega) hrow) ?_)) <;> (conv => whnf))))
      refine ⟨k + 1, by omega, by omega, ?_⟩
      (refine qConv.of hB [] [(0, 0)] [] (by rfl) ?_; focus ((conv => whnf); (repeat (refine And.intro ?_ ?_; rotate_left; (conv => whnf))); exact trivial; all_goals (try exact andT)))
      all_goals first | rfl | (simp [w]; done)
    · subst hE
      ((conv => whnf); (repeat' ((first | (with_reducible first | refine qif_n ?_ | refine qif_t ‹_› ?_ | refine qif_f ‹_› ?_) | ((with_reducible refine qif_t ?_ ?_); focus decide) | ((with_reducible refine qif_f ?_ ?_); focus decide) | (with_reducible refine And.intro (orderOk_i ?ho) ?_; (case ho => kernel_rfl)) | ((with_reducible refine qif_t ?_ ?_); focus (simp [hlt]; done)) | ((with_reducible refine qif_f ?_ ?_); focus (simp [hlt]; done)) | (with_reducible first | refine qif_i (fun _ => ?_) (fun _ => ?_) | refine frcVs_i ?_ | refine frcRs_i ?_)) <;> (conv => whnf))))
      (refine qConv.of hB [] [(0, 0)] [] (by rfl) ?_; focus ((conv => whnf); (repeat (refine And.intro ?_ ?_; rotate_left; (conv => whnf))); exact trivial; all_goals (try exact andT)))
theorem same_l (l : List (Int × Sg)) (hl : l.length ≤ 1000000) (hc : ∀ x ∈ l, x.2.data.length ≤ 100000000) : ACallL Tryz.prog 40 [.list 0 8 (l.map (snR 0)), .list 0 8 (l.map (snR 0))] [.perm] (.val (.bool true)) [.perm] := by
  have ll : (l.map (snR 0)).length = l.length := by simp
  have px := pl_sns l
  refine ACallL.of_ev mixed Tryz.func40 rfl (fun a w => Tryz.call40 a w) (congrArg Array.toList Tryz.results40) Tryz.ntmps40 fun B hB => ?_
  ((conv => whnf); (repeat' ((first | (with_reducible first | refine qif_n ?_ | refine qif_t ‹_› ?_ | refine qif_f ‹_› ?_) | ((with_reducible refine qif_t ?_ ?_); focus decide) | ((with_reducible refine qif_f ?_ ?_); focus decide) | (with_reducible refine And.intro (orderOk_i ?ho) ?_; (case ho => kernel_rfl)) | ((with_reducible refine qif_t ?_ ?_); focus (simp []; done)) | ((with_reducible refine qif_f ?_ ?_); focus (simp []; done)) | (with_reducible first | refine qif_i (fun _ => ?_) (fun _ => ?_) | refine frcVs_i ?_ | refine frcRs_i ?_)) <;> (conv => whnf))))
  refine qAW.loopE mixed (X := Nat) (fun k => slotsOf 42 [(0, .list 0 8 (l.map (snR 0))), (1, .list 0 8 (l.map (snR 0))), (5, .val (.int .i64 k))]) (fun k => [.perm])
    (fun k => k ≤ l.length) (fun k => l.length - k) 0 (Nat.zero_le _) ?_ ?_
  · (refine qConv.of hB [] [(0, 0)] [] (by rfl) ?_; focus ((conv => whnf); (repeat (refine And.intro ?_ ?_; rotate_left; (conv => whnf))); exact trivial; all_goals (try exact andT)))
    all_goals rfl
  · rintro E k hk hE
    by_cases hlt : k < l.length
    · obtain ⟨⟨ip, m⟩, hck⟩ : ∃ p, l[k]? = some p := ⟨_, List.getElem?_eq_getElem hlt⟩
      have hrow : (l.map (snR 0))[(k : Int).toNat]? = some (snR 0 (ip, m)) := by simp [hck]
      have p1 := pl_bytes m.data
      have w := IntWalk.i64_in (k + 1) (by omega)
      have cE := eqSeg_l m m (hc _ (List.mem_of_getElem? hck))
      rw [decide_eq_true (rfl : m = m)] at cE
      dsimp only [snR, sgR, sgL] at cE hrow
      subst hE
      ((conv => whnf); (repeat' ((first | (with_reducible first | refine qif_n ?_ | refine qif_t ‹_› ?_ | refine qif_f ‹_› ?_) | ((with_reducible refine qif_t ?_ ?_); focus decide) | ((with_reducible refine qif_f ?_ ?_); focus decide) | (with_reducible refine And.intro (orderOk_i ?ho) ?_; (case ho => kernel_rfl)) | ((with_reducible refine qif_t ?_ ?_); focus (simp [hlt]; done)) | ((with_reducible refine qif_f ?_ ?_); focus (simp [hlt]; done)) | (with_reducible first | refine qif_i (fun _ => ?_) (fun _ => ?_) | refine frcVs_i ?_ | refine frcRs_i ?_) | ((with_reducible refine qCall.pure (cE) ?_ ?_ ?_ ?_); rotate_left 4; exact trivial; exact plT; exact plT) | (refine qCase_i (idxL rfl rfl rfl rfl rfl rfl (by omega) hrow) ?_)) <;> (conv => whnf))))
      refine ⟨k + 1, by omega, by omega, ?_⟩
      (refine qConv.of hB [] [(0, 0)] [] (by rfl) ?_; focus ((conv => whnf); (repeat (refine And.intro ?_ ?_; rotate_left; (conv => whnf))); exact trivial; all_goals (try exact andT)))
      all_goals first | rfl | (simp [w]; done)
    · subst hE
      ((conv => whnf); (repeat' ((first | (with_reducible first | refine qif_n ?_ | refine qif_t ‹_› ?_ | refine qif_f ‹_› ?_) | ((with_reducible refine qif_t ?_ ?_); focus decide) | ((with_reducible refine qif_f ?_ ?_); focus decide) | (with_reducible refine And.intro (orderOk_i ?ho) ?_; (case ho => kernel_rfl)) | ((with_reducible refine qif_t ?_ ?_); focus (simp [hlt]; done)) | ((with_reducible refine qif_f ?_ ?_); focus (simp [hlt]; done)) | (with_reducible first | refine qif_i (fun _ => ?_) (fun _ => ?_) | refine frcVs_i ?_ | refine frcRs_i ?_)) <;> (conv => whnf))))
      (refine qConv.of hB [] [(0, 0)] [] (by rfl) ?_; focus ((conv => whnf); (repeat (refine And.intro ?_ ?_; rotate_left; (conv => whnf))); exact trivial; all_goals (try exact andT)))
end Go.Proofs.YtceohcbokbalhaaGreat

/- The page's connection sends what it may: on data. Conditions: bounds. -/
namespace Go.Proofs.YtceohcbokbalhaaGreat
open Go.RowKit
set_option linter.unusedVariables false
set_option linter.unusedSimpArgs false
set_option maxRecDepth 100000
set_option maxHeartbeats 4000000
theorem dt_AhTcpS_ROWR {p : Prop} (h : p := by first | ((first | rfl | (refine RowsRen.one ?_; (repeat (refine Cells.cons ?_ ?_; focus (first | exact .val _ | exact Ren.ll rfl _ | exact Ren.gg rfl _ | exact Ren.g2 rfl _ | exact Ren.vnil _ _ | exact Ren.vgnil _ _ | exact Ren.sll rfl rfl _ | exact Ren.sllN rfl rfl rfl rfl | exact Ren.sll1 rfl rfl rfl rfl | exact Ren.pll rfl rfl _ | fail))); exact Cells.nil) | exact segs_ll rfl _ | exact parts_ll rfl _ | exact bytes_cells _); done) | fail) : p := h
theorem pump2_eq (y : Stp) : y.pump2 = bif y.c.closing && (y.c.sent == (y.c.out.length : Int)) then
    { c := { y.c with nx := wadd y.c.nx 1, st := bif y.c.st == 2 then 3 else 7 }, out := y.out ++ [⟨y.c.port, y.c.pp, y.c.nx, y.c.inx, 17, 2048, []⟩], told := y.told } else y := by
  unfold Stp.pump2 Cn.len
  by_cases h : y.c.closing = true ∧ y.c.sent = (y.c.out.length : Int)
  · rw [if_pos h, h.1, h.2, beq_self_eq_true, Bool.and_true, cond_true]
    by_cases h2 : y.c.st = 2
    · rw [if_pos h2, h2]; rfl
    · rw [if_neg h2, show (y.c.st == 2) = false by simpa using h2]; rfl
  · rw [if_neg h]
    cases h1 : y.c.closing with
    | false => rfl
    | true =>
      rw [show (y.c.sent == (y.c.out.length : Int)) = false by rw [beq_eq_false_iff_ne]; exact fun e => h ⟨h1, e⟩]; rfl
theorem pump3_eq (y : Stp) : y.pump3 = bif !y.c.tm.on && (decide (0 < y.c.sent) || decide (y.c.sent < (y.c.out.length : Int))) then { y with c := { y.c with tm := tmNew 3 } } else y := by
  unfold Stp.pump3 Cn.len
  by_cases h : y.c.tm.on = false ∧ (0 < y.c.sent ∨ y.c.sent < (y.c.out.length : Int))
  · rw [if_pos h, h.1]
    rcases h.2 with h2 | h2
    · rw [show decide (0 < y.c.sent) = true by simpa using h2]; rfl
    · rw [show decide (y.c.sent < (y.c.out.length : Int)) = true by simpa using h2, Bool.or_true]; rfl
  · rw [if_neg h]
    cases h1 : y.c.tm.on with
    | true => rfl
    | false =>
      rw [show decide (0 < y.c.sent) = false by rw [decide_eq_false_iff_not]; exact fun e => h ⟨h1, .inl e⟩, show decide (y.c.sent < (y.c.out.length : Int)) = false by rw [decide_eq_false_iff_not]; exact fun e => h ⟨h1, .inr e⟩]; rfl
theorem rpump_l (x : Stp) (hP : PumpOk x.c) (hs : x.out.length ≤ 100000) :
    ACallL Tryz.prog 90 [.ptr 1 0 0] [.perm, rsO (rsN 2 3 4 5 6 7 x), .perm, .perm, .perm, .perm, .uniq, .uniq]
      (.tup []) [.perm, rsO (rsN 2 3 4 5 8 9 x.pump), .perm, .perm, .perm, .perm, .dead, .dead, .uniq, .uniq] := by
  dsimp only [rsN, spL]
  refine ACallL.of_cut mixed 2 Tryz.func90 rfl (fun a w => Tryz.call90 a w) (congrArg Array.toList Tryz.results90) Tryz.ntmps90 (by simp only [spine, chain, List.cons_append, List.nil_append, List.append_assoc, List.take_succ_cons, List.take_zero, List.drop_succ_cons, List.drop_zero]; rfl) (by simp only [spine, chain, List.cons_append, List.nil_append, List.append_assoc, List.take_succ_cons, List.take_zero, List.drop_succ_cons, List.drop_zero]; rfl) rfl (X := Stp) (fun y => slotsOf 129 [(0, .ptr 1 0 0), (2, .ptr 1 0 0)]) (fun y => [.perm, rsO (rsN 2 3 4 5 8 9 y), .perm, .perm, .perm, .perm, .dead, .dead, .uniq, .uniq])
    (fun y => PumpOk y.c ∧ y.out.length ≤ x.out.length + 8192 ∧ x.pump = y.pump2.pump3) (fun B hB => ?_) (fun B hB => ?_)
  · ((conv => whnf); (repeat' ((first | (with_reducible first | refine qif_n ?_ | refine qif_t ‹_› ?_ | refine qif_f ‹_› ?_) | ((with_reducible refine qif_t ?_ ?_); focus decide) | ((with_reducible refine qif_f ?_ ?_); focus decide) | (with_reducible refine And.intro (orderOk_i ?ho) ?_; (case ho => kernel_rfl)) | (with_reducible first | refine qif_i (fun _ => ?_) (fun _ => ?_) | refine frcVs_i ?_ | refine frcRs_i ?_)) <;> (conv => whnf))))
    refine qAW.loopE mixed (X := Stp) (fun y => slotsOf 129 [(0, .ptr 1 0 0), (2, .ptr 1 0 0)]) (fun y => [.perm, rsO (rsN 2 3 4 5 8 9 y), .perm, .perm, .perm, .perm, .dead, .dead, .uniq, .uniq])
      (fun y => PumpOk y.c ∧ y.out.length + (y.c.len - y.c.sent) ≤ x.out.length + 8192 ∧ pumpGo y.c.out.length y = pumpGo x.c.out.length x) (fun y => (y.c.len - y.c.sent).toNat) x ⟨hP, by have := hP.s0; have := hP.len; unfold Cn.len; omega, rfl⟩ ?_ ?_
    · (refine qConv.of hB [(1, 1)] [(0, 0), (2, 2), (3, 3), (4, 4), (5, 5), (6, 8), (7, 9)] [] (by rfl) ?_; focus ((conv => whnf); (repeat (refine And.intro ?_ ?_; rotate_left; (conv => whnf))); exact trivial; all_goals (try exact andT)))
      all_goals (try exact dt_AhTcpS_ROWR)
    · rintro E y ⟨hy, hb, hg⟩ hE
      have h0 := hy.s0
      have h1 := hy.s1
      have h2 := hy.len
      have h3 := hy.win
      have lo : (y.c.out.map bR).length = y.c.out.length := by simp
      unfold Cn.sent at h0 h1
      have w1 := IntWalk.i64_in ((y.c.out.length : Int) - wdiff y.c.nx y.c.una) (by omega)
      have w2 := IntWalk.i64_in (y.c.win - wdiff y.c.nx y.c.una) (by omega)
      dsimp only [rsN, spL]
      by_cases hn : 0 < y.c.pumpN
      · obtain ⟨a, ha⟩ : ∃ a : Nat, wdiff y.c.nx y.c.una = a := ⟨(wdiff y.c.nx y.c.una).toNat, by omega⟩
        obtain ⟨N, hN⟩ : ∃ N : Nat, y.c.pumpN = N := ⟨y.c.pumpN.toNat, by omega⟩
        have hle := pumpN_le hy
        have h1' := pump1_ok hy hn
        have h2' := pump1_sent hy hn
        have hgs := pumpGo_step hy hn
        have hM : min 536 (min (IntKind.i64.wrap (((y.c.out.map bR).length : Int) - wdiff y.c.nx y.c.una)) (IntKind.i64.wrap (y.c.win - wdiff y.c.nx y.c.una))) = N := by rw [lo, w1, w2, ← hN]; unfold Cn.pumpN Cn.len Cn.sent; omega
        have hcond : decide (min 536 (min (IntKind.i64.wrap (((y.c.out.map bR).length : Int) - wdiff y.c.nx y.c.una)) (IntKind.i64.wrap (y.c.win - wdiff y.c.nx y.c.una))) ≤ 0) = false := by rw [hM]; simp; omega
        have hsn : y.c.sent = a := ha
        have w3 : IntKind.i64.wrap (wdiff y.c.nx y.c.una + min 536 (min (IntKind.i64.wrap (((y.c.out.map bR).length : Int) - wdiff y.c.nx y.c.una)) (IntKind.i64.wrap (y.c.win - wdiff y.c.nx y.c.una)))) = a + N := by rw [hM, ha]; exact IntWalk.i64_in _ (by omega)
        obtain ⟨data, hda⟩ : ∃ d, (y.c.out.drop a).take N = d := ⟨_, rfl⟩
        have cS := rseg_l y y.c.nx 24 data (by rw [← hda]; simp; omega) (by unfold Cn.len at hb; omega)
        have hcb : 0 ≤ (some (wdiff y.c.nx y.c.una)).getD 0 ∧ (some (wdiff y.c.nx y.c.una)).getD 0 ≤ (some (IntKind.i64.wrap (wdiff y.c.nx y.c.una + min 536 (min (IntKind.i64.wrap (((y.c.out.map bR).length : Int) - wdiff y.c.nx y.c.una)) (IntKind.i64.wrap (y.c.win - wdiff y.c.nx y.c.una)))))).getD ((y.c.out.map bR).length : Int) ∧ (some (IntKind.i64.wrap (wdiff y.c.nx y.c.una + min 536 (min (IntKind.i64.wrap (((y.c.out.map bR).length : Int) - wdiff y.c.nx y.c.una)) (IntKind.i64.wrap (y.c.win - wdiff y.c.nx y.c.una)))))).getD ((y.c.out.map bR).length : Int) ≤ (none : Option Int).getD ((y.c.out.map bR).length : Int) ∧ (none : Option Int).getD ((y.c.out.map bR).length : Int) ≤ ((y.c.out.map bR).length : Int) ∧ ((none : Option Int) = none ∨ (some (IntKind.i64.wrap (wdiff y.c.nx y.c.una + min 536 (min (IntKind.i64.wrap (((y.c.out.map bR).length : Int) - wdiff y.c.nx y.c.una)) (IntKind.i64.wrap (y.c.win - wdiff y.c.nx y.c.una)))))) ≠ none) := by
          simp only [Option.getD_some, Option.getD_none]
          rw [w3, ha, lo]
          exact ⟨by omega, by omega, by omega, by omega, .inl trivial⟩
        have hsl : ((y.c.out.map bR).drop ((some (wdiff y.c.nx y.c.una)).getD 0).toNat).take ((some (IntKind.i64.wrap (wdiff y.c.nx y.c.una + min 536 (min (IntKind.i64.wrap (((y.c.out.map bR).length : Int) - wdiff y.c.nx y.c.una)) (IntKind.i64.wrap (y.c.win - wdiff y.c.nx y.c.una)))))).getD ((y.c.out.map bR).length : Int) - (some (wdiff y.c.nx y.c.una)).getD 0).toNat = data.map bR := by
          simp only [Option.getD_some]
          rw [w3, ha, ← hda, List.map_take, List.map_drop, show ((a : Int) + N - a).toNat = N by omega, Int.toNat_natCast]
        subst hE
        ((conv => whnf); (repeat' ((first | (with_reducible first | refine qif_n ?_ | refine qif_t ‹_› ?_ | refine qif_f ‹_› ?_) | ((with_reducible refine qif_t ?_ ?_); focus decide) | ((with_reducible refine qif_f ?_ ?_); focus decide) | (with_reducible refine And.intro (orderOk_i ?ho) ?_; (case ho => kernel_rfl)) | ((with_reducible refine qif_t ?_ ?_); focus (simp [lo, w1, w2]; done)) | ((with_reducible refine qif_f ?_ ?_); focus (simp [lo, w1, w2]; done)) | (with_reducible first | refine qif_i (fun _ => ?_) (fun _ => ?_) | refine frcVs_i ?_ | refine frcRs_i ?_) | (refine qCall.rsent rfl ?_) | (refine qCase_i (slL' rfl rfl rfl rfl rfl rfl rfl rfl hcb hsl) ?_)) <;> (conv => whnf))))
        ((with_reducible refine qCall.of (cS) [(1, 1)] [(0, 0), (2, 2), (3, 3), (4, 4), (5, 5), (6, 8), (7, 9)] [] [(8, 10), (9, 11)] [(1, rsO (rsN 2 3 4 5 10 11 (y.seg y.c.nx 24 data))), (8, .dead), (9, .dead), (10, .uniq), (11, .uniq)] (.tup []) ?hk ?_); (case hk => rfl); (conv => whnf); (repeat (refine And.intro ?_ ?_; exact sideT; (conv => whnf))); (fail_if_success (with_reducible first | refine And.intro (eqv_i ?_) ?_ | refine And.intro (ren_i ?_) ?_)))
        ((conv => whnf); (repeat' ((first | (with_reducible first | refine qif_n ?_ | refine qif_t ‹_› ?_ | refine qif_f ‹_› ?_) | ((with_reducible refine qif_t ?_ ?_); focus decide) | ((with_reducible refine qif_f ?_ ?_); focus decide) | (with_reducible refine And.intro (orderOk_i ?ho) ?_; (case ho => kernel_rfl)) | (with_reducible first | refine qif_i (fun _ => ?_) (fun _ => ?_) | refine frcVs_i ?_ | refine frcRs_i ?_) | ((with_reducible refine qCall.pure (refAdd_l _ _) ?_ ?_ ?_ ?_); rotate_left 4; exact trivial; exact plT; exact plT)) <;> (conv => whnf))))
        have hp1 : y.pump1 = { c := { y.c with nx := wadd y.c.nx N }, out := y.out ++ [⟨y.c.port, y.c.pp, y.c.nx, y.c.inx, 24, 2048, data⟩], told := y.told } := by
          unfold Stp.pump1; rw [hN, hsn, Int.toNat_natCast, Int.toNat_natCast, hda]
        refine ⟨y.pump1, ⟨h1', ?_, ?_⟩, ?_, ?_⟩
        · rw [h2']
          have e1 : y.pump1.c.len = y.c.len := rfl
          have e2 : y.pump1.out.length = y.out.length + 1 := by rw [hp1]; simp
          rw [e1, e2]; omega
        · rw [← hgs]; exact hg
        · rw [h2']
          have e1 : y.pump1.c.len = y.c.len := rfl
          have e3 : y.c.len = y.c.out.length := rfl
          rw [e1]; omega
        · as_aux_lemma =>
            rw [hp1, hM]
            (refine qConv.of hB [(1, 1)] [(0, 0), (2, 2), (3, 3), (4, 4), (5, 5), (10, 8), (11, 9)] [] (by rfl) ?_; focus ((conv => whnf); (repeat (refine And.intro ?_ ?_; rotate_left; (conv => whnf))); exact trivial; all_goals (try exact andT)))
            all_goals (try exact dt_AhTcpS_ROWR)
      · have hxe : pumpGo x.c.out.length x = y := by rw [← hg]; exact pumpGo_end (by omega) _
        have hM : min 536 (min (IntKind.i64.wrap (((y.c.out.map bR).length : Int) - wdiff y.c.nx y.c.una)) (IntKind.i64.wrap (y.c.win - wdiff y.c.nx y.c.una))) = y.c.pumpN := by rw [lo, w1, w2]; unfold Cn.pumpN Cn.len Cn.sent; omega
        have hcond : decide (min 536 (min (IntKind.i64.wrap (((y.c.out.map bR).length : Int) - wdiff y.c.nx y.c.una)) (IntKind.i64.wrap (y.c.win - wdiff y.c.nx y.c.una))) ≤ 0) = true := by rw [hM]; simp; omega
        subst hE
        ((conv => whnf); (repeat' ((first | (with_reducible first | refine qif_n ?_ | refine qif_t ‹_› ?_ | refine qif_f ‹_› ?_) | ((with_reducible refine qif_t ?_ ?_); focus decide) | ((with_reducible refine qif_f ?_ ?_); focus decide) | (with_reducible refine And.intro (orderOk_i ?ho) ?_; (case ho => kernel_rfl)) | ((with_reducible refine qif_t ?_ ?_); focus (simp [lo, w1, w2]; done)) | ((with_reducible refine qif_f ?_ ?_); focus (simp [lo, w1, w2]; done)) | (with_reducible first | refine qif_i (fun _ => ?_) (fun _ => ?_) | refine frcVs_i ?_ | refine frcRs_i ?_) | (refine qCall.rsent rfl ?_)) <;> (conv => whnf))))
        refine ⟨y, ⟨hy, by unfold Cn.len Cn.sent at hb; omega, by unfold Stp.pump; rw [hxe]⟩, ?_⟩
        (refine qConv.of hB [(1, 1)] [(0, 0), (2, 2), (3, 3), (4, 4), (5, 5), (8, 8), (9, 9)] [] (by rfl) ?_; focus ((conv => whnf); (repeat (refine And.intro ?_ ?_; rotate_left; (conv => whnf))); exact trivial; all_goals (try exact andT)))
        all_goals (try exact dt_AhTcpS_ROWR)
  · rintro y ⟨hy, ho, hg⟩
    have lo : (y.c.out.map bR).length = y.c.out.length := by simp
    have cS := rseg_l y y.c.nx 17 [] (by simp) (by omega)
    have hg2 := hg.trans (congrArg Stp.pump3 (pump2_eq y))
    obtain ⟨z, hz⟩ : ∃ z, x.pump = z := ⟨_, rfl⟩
    rw [hz] at hg2 ⊢
    clear hg hz
    unfold Cn.sent at hg2
    dsimp only [rsN, spL] at cS ⊢
    ((conv => whnf); (repeat' ((first | (with_reducible first | refine qif_n ?_ | refine qif_t ‹_› ?_ | refine qif_f ‹_› ?_) | ((with_reducible refine qif_t ?_ ?_); focus decide) | ((with_reducible refine qif_f ?_ ?_); focus decide) | (with_reducible refine And.intro (orderOk_i ?ho) ?_; (case ho => kernel_rfl)) | ((with_reducible refine qif_t ?_ ?_); focus (simp []; done)) | ((with_reducible refine qif_f ?_ ?_); focus (simp []; done)) | (with_reducible first | refine qif_i (fun _ => ?_) (fun _ => ?_) | refine frcVs_i ?_ | refine frcRs_i ?_) | (refine qCall.rsent rfl ?_) | ((with_reducible refine qCall.pure (refAdd_l _ _) ?_ ?_ ?_ ?_); rotate_left 4; exact trivial; exact plT; exact plT) | ((with_reducible refine qCall.pure (trefStart_l _) ?_ ?_ ?_ ?_); rotate_left 4; exact trivial; exact plT; exact plT) | (((with_reducible refine qCall.of (cS) [(1, 1)] [(0, 0), (2, 2), (3, 3), (4, 4), (5, 5), (6, 8), (7, 9)] [] [(8, 10), (9, 11)] [(1, rsO (spL (bL 2 y.c.out) (.list 3 2 (y.c.parts.map (prt 4))) (.glist 10 7 ((y.out ++ [(⟨y.c.port, y.c.pp, y.c.nx, y.c.inx, 17, 2048, []⟩ : Sg)]).map (sgR 11))) (bL 5 y.told) y.c)), (8, .dead), (9, .dead), (10, .uniq), (11, .uniq)] (.tup []) ?hk ?_); (case hk => rfl); (conv => whnf); (repeat (refine And.intro ?_ ?_; exact sideT; (conv => whnf))); (fail_if_success (with_reducible first | refine And.intro (eqv_i ?_) ?_ | refine And.intro (ren_i ?_) ?_))))) <;> (conv => whnf))))
    all_goals as_aux_lemma =>
      all_goals (try simp only [bne, Bool.not_eq_true', Bool.not_eq_false', List.length_map] at *)
      all_goals (simp only [*, cond_true, cond_false, Bool.and_true, Bool.and_false] at hg2)
      all_goals (rw [pump3_eq] at hg2; unfold Cn.sent at hg2; dsimp only at hg2)
      all_goals (simp only [*, cond_true, cond_false, Bool.true_or, Bool.or_true, Bool.false_or, Bool.or_false, Bool.true_and, Bool.false_and, Bool.and_true, Bool.and_false, Bool.not_true, Bool.not_false] at hg2)
      all_goals subst hg2
      all_goals (try simp only [show y.c.closing = true by assumption])
      all_goals (try simp only [show y.c.closing = false by assumption])
      all_goals first | ((refine qConv.of hB [(1, 1)] [(0, 0), (2, 2), (3, 3), (4, 4), (5, 5), (10, 8), (11, 9)] [] (by rfl) ?_; focus ((conv => whnf); (repeat (refine And.intro ?_ ?_; rotate_left; (conv => whnf))); exact trivial; all_goals (try exact andT)))) | ((refine qConv.of hB [(1, 1)] [(0, 0), (2, 2), (3, 3), (4, 4), (5, 5), (8, 8), (9, 9)] [] (by rfl) ?_; focus ((conv => whnf); (repeat (refine And.intro ?_ ?_; rotate_left; (conv => whnf))); exact trivial; all_goals (try exact andT))))
      all_goals (try exact dt_AhTcpS_ROWR)
end Go.Proofs.YtceohcbokbalhaaGreat

/- The page's connection sends, is closed, aborted, opened: on data. Conditions: lengths. -/
namespace Go.Proofs.YtceohcbokbalhaaGreat
open Go.RowKit
set_option linter.unusedVariables false
set_option linter.unusedSimpArgs false
set_option maxRecDepth 100000
set_option maxHeartbeats 4000000
theorem dt_AhTcpV_ROWR {p : Prop} (h : p := by first | ((first | rfl | (refine RowsRen.one ?_; (repeat (refine Cells.cons ?_ ?_; focus (first | exact .val _ | exact Ren.ll rfl _ | exact Ren.gg rfl _ | exact Ren.g2 rfl _ | exact Ren.vnil _ _ | exact Ren.vgnil _ _ | exact Ren.sll rfl rfl _ | exact Ren.sllN rfl rfl rfl rfl | exact Ren.sll1 rfl rfl rfl rfl | exact Ren.pll rfl rfl _ | fail))); exact Cells.nil) | exact segs_ll rfl _ | exact parts_ll rfl _ | exact bytes_cells _); done) | fail) : p := h
abbrev rsH (x : Stp) : List Own := [.perm, rsO (rsN 2 3 4 5 6 7 x), .uniq, .uniq, .uniq, .uniq, .uniq, .uniq]
theorem rAbort_l (c : Cn) (h : cnB c = true) : ACallL Tryz.prog 58 [.agg (cnR 0 c)] [.perm] (.ptr 1 0 0) (rsH c.aborts) := by
  have px := pl_bytes c.out
  have py := pl_parts c.parts
  have hI := (cnB_iff c).1 h
  have cB := begin_l c hI.cnLen
  have cS := rseg_l c.start c.nx 20 [] (by simp) (by simp [Cn.start])
  obtain ⟨y, hy⟩ : ∃ r, c.start.seg c.nx 20 [] = r := ⟨_, rfl⟩
  rw [hy] at cS
  have cC := rshut_l y
  unfold Cn.aborts Stp.abort
  have e0 : c.start.c = c := rfl
  rw [e0, hy]
  cases h0 : (c.st == 0) with
  | true =>
    have h0' : (c.st != 0) = false := by simpa using h0
    have e1 : c.start.shut = c.start := by
      obtain ⟨z1, z2, z3⟩ := hI.num.z (by simpa using h0)
      unfold Cn.start Stp.shut Cn.shut
      obtain ⟨link, ip, pp, port, st, una, nx, win, out, inx, parts, closing, tm⟩ := c
      simp only at z1 z2 z3 h0
      subst z1 z2 z3
      simp only [beq_iff_eq] at h0
      subst h0
      rfl
    rw [cond_true, e1]
    unfold Cn.start at cB ⊢
    dsimp only [cnR, cnL, rsN, spL] at cB ⊢
    refine ACallL.of_ev mixed Tryz.func58 rfl (fun a w => Tryz.call58 a w) (congrArg Array.toList Tryz.results58) Tryz.ntmps58 fun B hB => ?_
    ((conv => whnf); (repeat' ((first | (with_reducible first | refine qif_n ?_ | refine qif_t ‹_› ?_ | refine qif_f ‹_› ?_) | ((with_reducible refine qif_t ?_ ?_); focus decide) | ((with_reducible refine qif_f ?_ ?_); focus decide) | (with_reducible refine And.intro (orderOk_i ?ho) ?_; (case ho => kernel_rfl)) | (with_reducible first | refine qif_i (fun _ => ?_) (fun _ => ?_) | refine frcVs_i ?_ | refine frcRs_i ?_)) <;> (conv => whnf))))
    ((with_reducible refine qCall.of (cB) [] [(0, 0)] [] [(1, 2), (2, 3), (3, 4), (4, 5), (5, 6), (6, 7), (7, 8)] [(2, rsO (rsN 3 4 5 6 7 8 ⟨c, [], []⟩)), (3, .uniq), (4, .uniq), (5, .uniq), (6, .uniq), (7, .uniq), (8, .uniq)] (.ptr 2 0 0) ?hk ?_); (case hk => rfl); (conv => whnf); (repeat (refine And.intro ?_ ?_; exact sideT; (conv => whnf))); (fail_if_success (with_reducible first | refine And.intro (eqv_i ?_) ?_ | refine And.intro (ren_i ?_) ?_)))
    ((conv => whnf); (repeat' ((first | (with_reducible first | refine qif_n ?_ | refine qif_t ‹_› ?_ | refine qif_f ‹_› ?_) | ((with_reducible refine qif_t ?_ ?_); focus decide) | ((with_reducible refine qif_f ?_ ?_); focus decide) | (with_reducible refine And.intro (orderOk_i ?ho) ?_; (case ho => kernel_rfl)) | (with_reducible first | refine qif_i (fun _ => ?_) (fun _ => ?_) | refine frcVs_i ?_ | refine frcRs_i ?_)) <;> (conv => whnf))))
    (refine qConv.of hB [(2, 1)] [(0, 0), (3, 2), (4, 3), (5, 4), (6, 5), (7, 6), (8, 7)] [] (by rfl) ?_; focus ((conv => whnf); (repeat (refine And.intro ?_ ?_; rotate_left; (conv => whnf))); exact trivial; all_goals (try exact andT)))
    all_goals (try exact dt_AhTcpV_ROWR)
  | false =>
    have h0' : (c.st != 0) = true := by simpa using h0
    rw [cond_false]
    unfold Cn.start at cB cS
    dsimp only [cnR, cnL, rsN, spL] at cB cS cC ⊢
    refine ACallL.of_ev mixed Tryz.func58 rfl (fun a w => Tryz.call58 a w) (congrArg Array.toList Tryz.results58) Tryz.ntmps58 fun B hB => ?_
    ((conv => whnf); (repeat' ((first | (with_reducible first | refine qif_n ?_ | refine qif_t ‹_› ?_ | refine qif_f ‹_› ?_) | ((with_reducible refine qif_t ?_ ?_); focus decide) | ((with_reducible refine qif_f ?_ ?_); focus decide) | (with_reducible refine And.intro (orderOk_i ?ho) ?_; (case ho => kernel_rfl)) | (with_reducible first | refine qif_i (fun _ => ?_) (fun _ => ?_) | refine frcVs_i ?_ | refine frcRs_i ?_)) <;> (conv => whnf))))
    ((with_reducible refine qCall.of (cB) [] [(0, 0)] [] [(1, 2), (2, 3), (3, 4), (4, 5), (5, 6), (6, 7), (7, 8)] [(2, rsO (rsN 3 4 5 6 7 8 ⟨c, [], []⟩)), (3, .uniq), (4, .uniq), (5, .uniq), (6, .uniq), (7, .uniq), (8, .uniq)] (.ptr 2 0 0) ?hk ?_); (case hk => rfl); (conv => whnf); (repeat (refine And.intro ?_ ?_; exact sideT; (conv => whnf))); (fail_if_success (with_reducible first | refine And.intro (eqv_i ?_) ?_ | refine And.intro (ren_i ?_) ?_)))
    ((conv => whnf); (repeat' ((first | (with_reducible first | refine qif_n ?_ | refine qif_t ‹_› ?_ | refine qif_f ‹_› ?_) | ((with_reducible refine qif_t ?_ ?_); focus decide) | ((with_reducible refine qif_f ?_ ?_); focus decide) | (with_reducible refine And.intro (orderOk_i ?ho) ?_; (case ho => kernel_rfl)) | (with_reducible first | refine qif_i (fun _ => ?_) (fun _ => ?_) | refine frcVs_i ?_ | refine frcRs_i ?_)) <;> (conv => whnf))))
    ((with_reducible refine qCall.of (cS) [(1, 2)] [(0, 0), (2, 3), (3, 4), (4, 5), (5, 6), (6, 7), (7, 8)] [] [(8, 9), (9, 10)] [(2, rsO (rsN 3 4 5 6 9 10 y)), (7, .dead), (8, .dead), (9, .uniq), (10, .uniq)] (.tup []) ?hk ?_); (case hk => rfl); (conv => whnf); (repeat (refine And.intro ?_ ?_; exact sideT; (conv => whnf))); (fail_if_success (with_reducible first | refine And.intro (eqv_i ?_) ?_ | refine And.intro (ren_i ?_) ?_)))
    ((conv => whnf); (repeat' ((first | (with_reducible first | refine qif_n ?_ | refine qif_t ‹_› ?_ | refine qif_f ‹_› ?_) | ((with_reducible refine qif_t ?_ ?_); focus decide) | ((with_reducible refine qif_f ?_ ?_); focus decide) | (with_reducible refine And.intro (orderOk_i ?ho) ?_; (case ho => kernel_rfl)) | (with_reducible first | refine qif_i (fun _ => ?_) (fun _ => ?_) | refine frcVs_i ?_ | refine frcRs_i ?_)) <;> (conv => whnf))))
    ((with_reducible refine qCall.of (cC) [(1, 2)] [(0, 0), (2, 3), (3, 4), (4, 5), (5, 6), (6, 9), (7, 10)] [] [] [(2, rsO (rsN 3 4 5 6 9 10 y.shut))] (.tup []) ?hk ?_); (case hk => rfl); (conv => whnf); (repeat (refine And.intro ?_ ?_; exact sideT; (conv => whnf))); (fail_if_success (with_reducible first | refine And.intro (eqv_i ?_) ?_ | refine And.intro (ren_i ?_) ?_)))
    ((conv => whnf); (repeat' ((first | (with_reducible first | refine qif_n ?_ | refine qif_t ‹_› ?_ | refine qif_f ‹_› ?_) | ((with_reducible refine qif_t ?_ ?_); focus decide) | ((with_reducible refine qif_f ?_ ?_); focus decide) | (with_reducible refine And.intro (orderOk_i ?ho) ?_; (case ho => kernel_rfl)) | (with_reducible first | refine qif_i (fun _ => ?_) (fun _ => ?_) | refine frcVs_i ?_ | refine frcRs_i ?_)) <;> (conv => whnf))))
    (refine qConv.of hB [(2, 1)] [(0, 0), (3, 2), (4, 3), (5, 4), (6, 5), (9, 6), (10, 7)] [] (by rfl) ?_; focus ((conv => whnf); (repeat (refine And.intro ?_ ?_; rotate_left; (conv => whnf))); exact trivial; all_goals (try exact andT)))
    all_goals (try exact dt_AhTcpV_ROWR)
theorem beginG_l (c : Cn) (hc : CnLen c) : ACallL Tryz.prog 89 [.agg (cnR 0 c)] [.perm] (.ptr 1 0 0) [.perm, rsO (spL (gL 2 c.out) (.list 3 2 (c.parts.map (prt 4))) (.glist 6 7 (([] : List Sg).map (sgR 7))) (bL 5 []) c), .uniq, .uniq, .uniq, .uniq, .uniq, .uniq] := by
  have cO := copyConn_l c hc
  dsimp only [cnR, cnL, cnG, spL] at cO ⊢
  refine ACallL.of_ev mixed Tryz.func89 rfl (fun a w => Tryz.call89 a w) (congrArg Array.toList Tryz.results89) Tryz.ntmps89 fun B hB => ?_
  ((conv => whnf); (repeat' ((first | (with_reducible first | refine qif_n ?_ | refine qif_t ‹_› ?_ | refine qif_f ‹_› ?_) | ((with_reducible refine qif_t ?_ ?_); focus decide) | ((with_reducible refine qif_f ?_ ?_); focus decide) | (with_reducible refine And.intro (orderOk_i ?ho) ?_; (case ho => kernel_rfl)) | (with_reducible first | refine qif_i (fun _ => ?_) (fun _ => ?_) | refine frcVs_i ?_ | refine frcRs_i ?_)) <;> (conv => whnf))))
  ((with_reducible refine qCall.of (cO) [] [(0, 0)] [] [(1, 2), (2, 3), (3, 4)] [(2, .uniq), (3, .uniq), (4, .uniq)] (.agg (cnG 2 3 4 c)) ?hk ?_); (case hk => rfl); (conv => whnf); (repeat (refine And.intro ?_ ?_; exact sideT; (conv => whnf))); (fail_if_success (with_reducible first | refine And.intro (eqv_i ?_) ?_ | refine And.intro (ren_i ?_) ?_)))
  ((conv => whnf); (repeat' ((first | (with_reducible first | refine qif_n ?_ | refine qif_t ‹_› ?_ | refine qif_f ‹_› ?_) | ((with_reducible refine qif_t ?_ ?_); focus decide) | ((with_reducible refine qif_f ?_ ?_); focus decide) | (with_reducible refine And.intro (orderOk_i ?ho) ?_; (case ho => kernel_rfl)) | (with_reducible first | refine qif_i (fun _ => ?_) (fun _ => ?_) | refine frcVs_i ?_ | refine frcRs_i ?_)) <;> (conv => whnf))))
  (refine qConv.of hB [(5, 1)] [(0, 0), (2, 2), (3, 3), (4, 4)] [] (by rfl) ?_; focus ((conv => whnf); (repeat (refine And.intro ?_ ?_; rotate_left; (conv => whnf))); exact trivial; all_goals (try exact andT)))
  all_goals (try (first | rfl | (refine RowsRen.one ?_; (repeat (refine Cells.cons ?_ ?_; focus (first | exact .val _ | exact Ren.gg rfl _ | exact Ren.pg2 rfl rfl _ | exact Ren.vnil _ _ | exact Ren.vgnil _ _ | fail))); exact Cells.nil)))
theorem rClose_no (c : Cn) (h : c.closeE = 6) : ACallL Tryz.prog 56 [.agg (cnR 0 c)] [.perm] (.tup [.val (.pointer none), .val (.int .i64 6)]) [.perm] := by
  have px := pl_bytes c.out
  have py := pl_parts c.parts
  unfold Cn.closeE Cn.talks at h
  dsimp only [cnR, cnL]
  refine ACallL.of_ev mixed Tryz.func56 rfl (fun a w => Tryz.call56 a w) (congrArg Array.toList Tryz.results56) Tryz.ntmps56 fun B hB => ?_
  ((conv => whnf); (repeat' ((first | (with_reducible first | refine qif_n ?_ | refine qif_t ‹_› ?_ | refine qif_f ‹_› ?_) | ((with_reducible refine qif_t ?_ ?_); focus decide) | ((with_reducible refine qif_f ?_ ?_); focus decide) | (with_reducible refine And.intro (orderOk_i ?ho) ?_; (case ho => kernel_rfl)) | (with_reducible first | refine qif_i (fun _ => ?_) (fun _ => ?_) | refine frcVs_i ?_ | refine frcRs_i ?_)) <;> (conv => whnf))))
  all_goals (try simp only [bne, Bool.not_eq_true', Bool.not_eq_false'] at *)
  all_goals first | ((refine qConv.of hB [] [(0, 0)] [] (by rfl) ?_; focus ((conv => whnf); (repeat (refine And.intro ?_ ?_; rotate_left; (conv => whnf))); exact trivial; all_goals (try exact andT)))) | (exfalso; simp_all; done)
theorem rClose_l (c : Cn) (h : cnB c = true) (he : c.closeE = 0) : ACallL Tryz.prog 56 [.agg (cnR 0 c)] [.perm] (.tup [.ptr 1 0 0, .val (.int .i64 0)]) (rsH c.closes) := by
  have px := pl_bytes c.out
  have py := pl_parts c.parts
  have hI := (cnB_iff c).1 h
  have cB := begin_l c hI.cnLen
  obtain ⟨hcl, hts⟩ : c.closing = false ∧ (c.talks || c.st == 1) = true := by
    unfold Cn.closeE at he
    cases h1 : c.closing <;> cases h2 : (c.talks || c.st == 1) <;> rw [h1, h2] at he <;> simp at he ⊢
  unfold Cn.closes
  cases ht : c.talks with
  | true =>
    have cP := rpump_l (({ c with closing := true } : Cn)).start ⟨hI.una, hI.nx, ((hI.pumpOk ht).s0), ((hI.pumpOk ht).s1), hI.len, hI.win⟩ (by simp [Cn.start])
    obtain ⟨y, hy⟩ : ∃ r, (({ c with closing := true } : Cn)).start.pump = r := ⟨_, rfl⟩
    rw [hy] at cP
    rw [cond_true, hy]
    have hst : c.st = 2 ∨ c.st = 5 := by simpa [Cn.talks] using ht
    unfold Cn.start at cB cP
    dsimp only [cnR, cnL, rsN, spL] at cB cP ⊢
    rcases hst with hst | hst
    all_goals
      have s1 : (c.st != 1) = true := by rw [hst]; decide
      have s5 : (c.st != 5) = (c.st == 2) := by rw [hst]; decide
      have s2 : (c.st != 2) = (c.st == 5) := by rw [hst]; decide
      have s3 : (c.st == 2) = decide (c.st = 2) := rfl
      refine ACallL.of_ev mixed Tryz.func56 rfl (fun a w => Tryz.call56 a w) (congrArg Array.toList Tryz.results56) Tryz.ntmps56 fun B hB => ?_
      ((conv => whnf); (repeat' ((first | (with_reducible first | refine qif_n ?_ | refine qif_t ‹_› ?_ | refine qif_f ‹_› ?_) | ((with_reducible refine qif_t ?_ ?_); focus decide) | ((with_reducible refine qif_f ?_ ?_); focus decide) | (with_reducible refine And.intro (orderOk_i ?ho) ?_; (case ho => kernel_rfl)) | ((with_reducible refine qif_t ?_ ?_); focus (simp [hcl, hst]; done)) | ((with_reducible refine qif_f ?_ ?_); focus (simp [hcl, hst]; done)) | (with_reducible first | refine qif_i (fun _ => ?_) (fun _ => ?_) | refine frcVs_i ?_ | refine frcRs_i ?_)) <;> (conv => whnf))))
      ((with_reducible refine qCall.of (cB) [] [(0, 0)] [] [(1, 2), (2, 3), (3, 4), (4, 5), (5, 6), (6, 7), (7, 8)] [(2, rsO (rsN 3 4 5 6 7 8 ⟨c, [], []⟩)), (3, .uniq), (4, .uniq), (5, .uniq), (6, .uniq), (7, .uniq), (8, .uniq)] (.ptr 2 0 0) ?hk ?_); (case hk => rfl); (conv => whnf); (repeat (refine And.intro ?_ ?_; exact sideT; (conv => whnf))); (fail_if_success (with_reducible first | refine And.intro (eqv_i ?_) ?_ | refine And.intro (ren_i ?_) ?_)))
      ((conv => whnf); (repeat' ((first | (with_reducible first | refine qif_n ?_ | refine qif_t ‹_› ?_ | refine qif_f ‹_› ?_) | ((with_reducible refine qif_t ?_ ?_); focus decide) | ((with_reducible refine qif_f ?_ ?_); focus decide) | (with_reducible refine And.intro (orderOk_i ?ho) ?_; (case ho => kernel_rfl)) | ((with_reducible refine qif_t ?_ ?_); focus (simp [hcl, hst]; done)) | ((with_reducible refine qif_f ?_ ?_); focus (simp [hcl, hst]; done)) | (with_reducible first | refine qif_i (fun _ => ?_) (fun _ => ?_) | refine frcVs_i ?_ | refine frcRs_i ?_)) <;> (conv => whnf))))
      ((with_reducible refine qCall.of (cP) [(1, 2)] [(0, 0), (2, 3), (3, 4), (4, 5), (5, 6), (6, 7), (7, 8)] [] [(8, 9), (9, 10)] [(2, rsO (rsN 3 4 5 6 9 10 y)), (7, .dead), (8, .dead), (9, .uniq), (10, .uniq)] (.tup []) ?hk ?_); (case hk => rfl); (conv => whnf); (repeat (refine And.intro ?_ ?_; exact sideT; (conv => whnf))); (fail_if_success (with_reducible first | refine And.intro (eqv_i ?_) ?_ | refine And.intro (ren_i ?_) ?_)))
      ((conv => whnf); (repeat' ((first | (with_reducible first | refine qif_n ?_ | refine qif_t ‹_› ?_ | refine qif_f ‹_› ?_) | ((with_reducible refine qif_t ?_ ?_); focus decide) | ((with_reducible refine qif_f ?_ ?_); focus decide) | (with_reducible refine And.intro (orderOk_i ?ho) ?_; (case ho => kernel_rfl)) | (with_reducible first | refine qif_i (fun _ => ?_) (fun _ => ?_) | refine frcVs_i ?_ | refine frcRs_i ?_)) <;> (conv => whnf))))
      (refine qConv.of hB [(2, 1)] [(0, 0), (3, 2), (4, 3), (5, 4), (6, 5), (9, 6), (10, 7)] [] (by rfl) ?_; focus ((conv => whnf); (repeat (refine And.intro ?_ ?_; rotate_left; (conv => whnf))); exact trivial; all_goals (try exact andT)))
      all_goals (try exact dt_AhTcpV_ROWR)
  | false =>
    have hst : c.st = 1 := by rw [ht] at hts; simpa using hts
    rw [cond_false]
    unfold Cn.start at cB ⊢
    dsimp only [cnR, cnL, rsN, spL] at cB ⊢
    refine ACallL.of_ev mixed Tryz.func56 rfl (fun a w => Tryz.call56 a w) (congrArg Array.toList Tryz.results56) Tryz.ntmps56 fun B hB => ?_
    ((conv => whnf); (repeat' ((first | (with_reducible first | refine qif_n ?_ | refine qif_t ‹_› ?_ | refine qif_f ‹_› ?_) | ((with_reducible refine qif_t ?_ ?_); focus decide) | ((with_reducible refine qif_f ?_ ?_); focus decide) | (with_reducible refine And.intro (orderOk_i ?ho) ?_; (case ho => kernel_rfl)) | ((with_reducible refine qif_t ?_ ?_); focus (simp [hcl, hst]; done)) | ((with_reducible refine qif_f ?_ ?_); focus (simp [hcl, hst]; done)) | (with_reducible first | refine qif_i (fun _ => ?_) (fun _ => ?_) | refine frcVs_i ?_ | refine frcRs_i ?_)) <;> (conv => whnf))))
    ((with_reducible refine qCall.of (cB) [] [(0, 0)] [] [(1, 2), (2, 3), (3, 4), (4, 5), (5, 6), (6, 7), (7, 8)] [(2, rsO (rsN 3 4 5 6 7 8 ⟨c, [], []⟩)), (3, .uniq), (4, .uniq), (5, .uniq), (6, .uniq), (7, .uniq), (8, .uniq)] (.ptr 2 0 0) ?hk ?_); (case hk => rfl); (conv => whnf); (repeat (refine And.intro ?_ ?_; exact sideT; (conv => whnf))); (fail_if_success (with_reducible first | refine And.intro (eqv_i ?_) ?_ | refine And.intro (ren_i ?_) ?_)))
    ((conv => whnf); (repeat' ((first | (with_reducible first | refine qif_n ?_ | refine qif_t ‹_› ?_ | refine qif_f ‹_› ?_) | ((with_reducible refine qif_t ?_ ?_); focus decide) | ((with_reducible refine qif_f ?_ ?_); focus decide) | (with_reducible refine And.intro (orderOk_i ?ho) ?_; (case ho => kernel_rfl)) | ((with_reducible refine qif_t ?_ ?_); focus (simp [hcl, hst]; done)) | ((with_reducible refine qif_f ?_ ?_); focus (simp [hcl, hst]; done)) | (with_reducible first | refine qif_i (fun _ => ?_) (fun _ => ?_) | refine frcVs_i ?_ | refine frcRs_i ?_)) <;> (conv => whnf))))
    (refine qConv.of hB [(2, 1)] [(0, 0), (3, 2), (4, 3), (5, 4), (6, 5), (7, 6), (8, 7)] [] (by rfl) ?_; focus ((conv => whnf); (repeat (refine And.intro ?_ ?_; rotate_left; (conv => whnf))); exact trivial; all_goals (try exact andT)))
    all_goals (try exact dt_AhTcpV_ROWR)
theorem rSend_no (c : Cn) (xs : List Int) (ho : c.out.length ≤ 8192) (h : c.sendE xs ≠ 0) : ACallL Tryz.prog 51 [.agg (cnR 0 c), bL 0 xs] [.perm] (.tup [.val (.pointer none), .val (.int .i64 (c.sendE xs))]) [.perm] := by
  have px := pl_bytes c.out
  have py := pl_parts c.parts
  have pz := pl_bytes xs
  have w := IntWalk.i64_in (8192 - (c.out.length : Int)) (by omega)
  unfold Cn.sendE Cn.talks at h ⊢
  rw [← w] at h ⊢
  clear w ho
  dsimp only [cnR, cnL]
  refine ACallL.of_ev mixed Tryz.func51 rfl (fun a w => Tryz.call51 a w) (congrArg Array.toList Tryz.results51) Tryz.ntmps51 fun B hB => ?_
  ((conv => whnf); (repeat' ((first | (with_reducible first | refine qif_n ?_ | refine qif_t ‹_› ?_ | refine qif_f ‹_› ?_) | ((with_reducible refine qif_t ?_ ?_); focus decide) | ((with_reducible refine qif_f ?_ ?_); focus decide) | (with_reducible refine And.intro (orderOk_i ?ho) ?_; (case ho => kernel_rfl)) | (with_reducible first | refine qif_i (fun _ => ?_) (fun _ => ?_) | refine frcVs_i ?_ | refine frcRs_i ?_)) <;> (conv => whnf))))
  all_goals (try simp only [bne, Bool.not_eq_true', Bool.not_eq_false', List.length_map] at *)
  all_goals (try simp only [*, cond_true, cond_false, Bool.true_or, Bool.or_true, Bool.false_or, Bool.or_false, Bool.true_and, Bool.false_and, Bool.and_true, Bool.and_false, Bool.not_true, Bool.not_false])
  all_goals first | ((refine qConv.of hB [] [(0, 0)] [] (by rfl) ?_; focus ((conv => whnf); (repeat (refine And.intro ?_ ?_; rotate_left; (conv => whnf))); exact trivial; all_goals (try exact andT)))) | (exfalso; simp_all; done)
theorem rSend_l (c : Cn) (xs : List Int) (h : cnB c = true) (he : c.sendE xs = 0) : ACallL Tryz.prog 51 [.agg (cnR 0 c), bL 0 xs] [.perm] (.tup [.ptr 1 0 0, .val (.int .i64 0)]) (rsH (c.sends xs)) := by
  have px := pl_bytes c.out
  have py := pl_parts c.parts
  have pz := pl_bytes xs
  have hI := (cnB_iff c).1 h
  have cB := beginG_l c hI.cnLen
  have hlen := hI.len
  have lo : (c.out.map bR).length = c.out.length := by simp
  have lx : (xs.map bR).length = xs.length := by simp
  obtain ⟨ht, hcl, hle⟩ : c.talks = true ∧ c.closing = false ∧ ¬ (8192 - (c.out.length : Int) < (xs.length : Int)) := by
    unfold Cn.sendE at he
    cases h1 : c.closing <;> cases h2 : c.talks <;> rw [h1, h2] at he <;> simp at he ⊢
    cases h3 : decide (8192 - (c.out.length : Int) < (xs.length : Int)) with
    | true => rw [h3] at he; simp at he
    | false => simpa using h3
  have w := IntWalk.i64_in (8192 - (c.out.length : Int)) (by omega)
  have hle' : decide (IntKind.i64.wrap (8192 - ((c.out.map bR).length : Int)) < ((xs.map bR).length : Int)) = false := by rw [lo, lx, w, decide_eq_false_iff_not]; exact hle
  unfold Cn.sends
  have hlx : (c.out ++ xs).length ≤ 8192 := by simp; omega
  have hP := hI.pumpOk ht
  have cP := rpump_l (({ c with out := c.out ++ xs } : Cn)).start ⟨hI.una, hI.nx, hP.s0, by have := hP.s1; show wdiff c.nx c.una ≤ ((c.out ++ xs).length : Int); unfold Cn.sent at this; simp; omega, hlx, hI.win⟩ (by simp [Cn.start])
  obtain ⟨y, hy⟩ : ∃ r, (({ c with out := c.out ++ xs } : Cn)).start.pump = r := ⟨_, rfl⟩
  rw [hy] at cP ⊢
  have hst : c.st = 2 ∨ c.st = 5 := by simpa [Cn.talks] using ht
  have hmap : c.out.map bR ++ xs.map bR = (c.out ++ xs).map bR := by simp
  unfold Cn.start at cP
  dsimp only [cnR, cnL, rsN, spL] at cB cP ⊢
  rcases hst with hst | hst
  all_goals
    refine ACallL.of_ev mixed Tryz.func51 rfl (fun a w => Tryz.call51 a w) (congrArg Array.toList Tryz.results51) Tryz.ntmps51 fun B hB => ?_
    ((conv => whnf); (repeat' ((first | (with_reducible first | refine qif_n ?_ | refine qif_t ‹_› ?_ | refine qif_f ‹_› ?_) | ((with_reducible refine qif_t ?_ ?_); focus decide) | ((with_reducible refine qif_f ?_ ?_); focus decide) | (with_reducible refine And.intro (orderOk_i ?ho) ?_; (case ho => kernel_rfl)) | ((with_reducible refine qif_t ?_ ?_); focus (simp [hcl, hst]; done)) | ((with_reducible refine qif_f ?_ ?_); focus (simp [hcl, hst]; done)) | (with_reducible first | refine qif_i (fun _ => ?_) (fun _ => ?_) | refine frcVs_i ?_ | refine frcRs_i ?_)) <;> (conv => whnf))))
    ((with_reducible refine qCall.of (cB) [] [(0, 0)] [] [(1, 2), (2, 3), (3, 4), (4, 5), (5, 6), (6, 7), (7, 8)] [(2, rsO (spL (gL 3 c.out) (.list 4 2 (c.parts.map (prt 5))) (.glist 7 7 (([] : List Sg).map (sgR 8))) (bL 6 []) c)), (3, .uniq), (4, .uniq), (5, .uniq), (6, .uniq), (7, .uniq), (8, .uniq)] (.ptr 2 0 0) ?hk ?_); (case hk => rfl); (conv => whnf); (repeat (refine And.intro ?_ ?_; exact sideT; (conv => whnf))); (fail_if_success (with_reducible first | refine And.intro (eqv_i ?_) ?_ | refine And.intro (ren_i ?_) ?_)))
    ((conv => whnf); (repeat' ((first | (with_reducible first | refine qif_n ?_ | refine qif_t ‹_› ?_ | refine qif_f ‹_› ?_) | ((with_reducible refine qif_t ?_ ?_); focus decide) | ((with_reducible refine qif_f ?_ ?_); focus decide) | (with_reducible refine And.intro (orderOk_i ?ho) ?_; (case ho => kernel_rfl)) | (with_reducible first | refine qif_i (fun _ => ?_) (fun _ => ?_) | refine frcVs_i ?_ | refine frcRs_i ?_) | (refine qCase_i (apG' (nb := 1) rfl rfl rfl rfl rfl rfl rfl rfl rfl rfl (by decide) (ones_bytes xs) (by rw [lo, lx]; omega) hmap) ?_)) <;> (conv => whnf))))
    ((with_reducible refine qCall.of (cP) [(1, 2)] [(0, 0), (2, 9), (3, 4), (4, 5), (5, 6), (6, 7), (7, 8)] [] [(8, 10), (9, 11)] [(2, rsO (rsN 9 4 5 6 10 11 y)), (7, .dead), (8, .dead), (10, .uniq), (11, .uniq)] (.tup []) ?hk ?_); (case hk => rfl); (conv => whnf); (repeat (refine And.intro ?_ ?_; exact sideT; (conv => whnf))); (fail_if_success (with_reducible first | refine And.intro (eqv_i ?_) ?_ | refine And.intro (ren_i ?_) ?_)))
    ((conv => whnf); (repeat' ((first | (with_reducible first | refine qif_n ?_ | refine qif_t ‹_› ?_ | refine qif_f ‹_› ?_) | ((with_reducible refine qif_t ?_ ?_); focus decide) | ((with_reducible refine qif_f ?_ ?_); focus decide) | (with_reducible refine And.intro (orderOk_i ?ho) ?_; (case ho => kernel_rfl)) | (with_reducible first | refine qif_i (fun _ => ?_) (fun _ => ?_) | refine frcVs_i ?_ | refine frcRs_i ?_)) <;> (conv => whnf))))
    (refine qConv.of hB [(2, 1)] [(0, 0), (9, 2), (4, 3), (5, 4), (6, 5), (10, 6), (11, 7)] [] (by rfl) ?_; focus ((conv => whnf); (repeat (refine And.intro ?_ ?_; rotate_left; (conv => whnf))); exact trivial; all_goals (try exact andT)))
    all_goals (try exact dt_AhTcpV_ROWR)
end Go.Proofs.YtceohcbokbalhaaGreat

/- What the page says may be a host, where it finds a connection: on data. Conditions: lengths. -/
namespace Go.Proofs.YtceohcbokbalhaaGreat
open Go.RowKit
set_option linter.unusedVariables false
set_option linter.unusedSimpArgs false
set_option maxRecDepth 100000
set_option maxHeartbeats 4000000
def lastK (l : List Cn) : Nat → Int
  | 0 => 0
  | i + 1 => (l.getD i cnZ).link
theorem conn_ways {l : List Cn} {i : Nat} {c : Cn} {count : Int} {b : Bool} (hc : l[i]? = some c) (hl : 0 < i → 1 ≤ lastK l i) (hgo : connsB count (lastK l i) (l.take i) (l.drop i) = b) (p : Cn) (hp : 0 < i → l[i - 1]? = some p) :
    (b = false ∧ (cnB c = false ∨ cnB c = true ∧ (c.st == 0) = true ∨ cnB c = true ∧ (c.st == 0) = false ∧ decide (c.link < 1) = true ∨ cnB c = true ∧ (c.st == 0) = false ∧ decide (c.link < 1) = false ∧ decide (count < c.link) = true ∨
      cnB c = true ∧ (c.st == 0) = false ∧ decide (c.link < 1) = false ∧ decide (count < c.link) = false ∧ (decide (0 < (i : Int)) = true ∧ decide (c.link ≤ p.link) = true ∨ decide (0 < (i : Int)) = true ∧ decide (c.link ≤ p.link) = false ∧ (c.port != 1883) = true ∨ decide (0 < (i : Int)) = false ∧ (c.port != 1883) = true))) ∨
    (cnB c = true ∧ (c.st == 0) = false ∧ decide (c.link < 1) = false ∧ decide (count < c.link) = false ∧ (decide (0 < (i : Int)) = true ∧ decide (c.link ≤ p.link) = false ∨ decide (0 < (i : Int)) = false) ∧ (c.port != 1883) = false ∧ 1 ≤ c.link ∧
      (!seenB c (l.take i) && connsB count (lastK l (i + 1)) (l.take (i + 1)) (l.drop (i + 1))) = b) := by
  have e1 : lastK l (i + 1) = c.link := by unfold lastK; simp [List.getD, hc]
  rw [e1, take_snoc hc]
  rw [drop_cons hc, connsB] at hgo
  have hlast : decide (lastK l i < c.link) = (!decide (c.link < 1) && !(decide (0 < (i : Int)) && decide (c.link ≤ p.link))) := by
    cases i with
    | zero =>
      rw [show decide (0 < ((0 : Nat) : Int)) = false by decide, Bool.false_and, Bool.not_false, Bool.and_true, Bool.eq_iff_iff]
      unfold lastK
      simp only [decide_eq_true_eq, Bool.not_eq_true', decide_eq_false_iff_not]
      omega
    | succ i =>
      have h1 := hl (by omega)
      have h2 := hp (by omega)
      have h2 : l[i]? = some p := h2
      have h3 : lastK l (i + 1) = p.link := by unfold lastK; simp [List.getD, h2]
      rw [h3] at h1 ⊢
      rw [Bool.eq_iff_iff]
      simp only [decide_eq_true_eq, Bool.and_eq_true, Bool.not_eq_true', decide_eq_false_iff_not, Bool.and_eq_false_iff]
      omega
  have hcount : decide (c.link ≤ count) = !decide (count < c.link) := by rw [Bool.eq_iff_iff]; simp
  have hport : (c.port == 1883) = !(c.port != 1883) := by rw [bne, Bool.not_not]
  have h1 : decide (c.link < 1) = false → 1 ≤ c.link := fun h => by simpa using h
  rw [hlast, hcount, hport] at hgo
  generalize connsB count c.link (l.take i ++ [c]) (l.drop (i + 1)) = v9 at hgo ⊢
  generalize seenB c (l.take i) = v8 at hgo ⊢
  generalize (c.port != 1883) = v7 at hgo ⊢
  generalize decide (c.link ≤ p.link) = v6 at hgo ⊢
  generalize decide (0 < (i : Int)) = v5 at hgo ⊢
  generalize decide (count < c.link) = v4 at hgo ⊢
  generalize decide (c.link < 1) = v3 at hgo h1 ⊢
  generalize (c.st == 0) = v2 at hgo ⊢
  generalize cnB c = v1 at hgo ⊢
  subst hgo
  cases v1
  · simp
  cases v2
  · cases v3
    · have h1 := h1 rfl
      cases v4 <;> cases v5 <;> cases v6 <;> cases v7 <;> simp [h1]
    · simp
  · simp
theorem rHost_l (h : Ho) (hl : h.conns.length ≤ 100000000) (hc : ∀ c ∈ h.conns, CnLen c) : ACallL Tryz.prog 14 [.agg (hoR h)] [.perm] (.val (.bool (hostB h))) [.perm] := by
  obtain ⟨l, count⟩ := h
  have px := pl_cns l
  have ll : (l.map (cnR 0)).length = l.length := by simp
  have cN := num_l count 1099511627776
  rw [← within.eq_1] at cN
  unfold hostB
  dsimp only [hoR] at hl hc ⊢
  by_cases h8 : l.length ≤ 8
  · have g8 : decide (8 < ((l.map (cnR 0)).length : Int)) = false := by simp; omega
    rw [show decide (l.length ≤ 8) = true by simpa using h8, Bool.true_and]
    cases hw : within count 1099511627776 with
    | false =>
      rw [hw] at cN
      rw [Bool.false_and]
      refine ACallL.of_ev mixed Tryz.func14 rfl (fun a w => Tryz.call14 a w) (congrArg Array.toList Tryz.results14) Tryz.ntmps14 fun B hB => ?_
      ((conv => whnf); (repeat' ((first | (with_reducible first | refine qif_n ?_ | refine qif_t ‹_› ?_ | refine qif_f ‹_› ?_) | ((with_reducible refine qif_t ?_ ?_); focus decide) | ((with_reducible refine qif_f ?_ ?_); focus decide) | (with_reducible refine And.intro (orderOk_i ?ho) ?_; (case ho => kernel_rfl)) | ((with_reducible refine qif_t ?_ ?_); focus (simp []; done)) | ((with_reducible refine qif_f ?_ ?_); focus (simp []; done)) | (with_reducible first | refine qif_i (fun _ => ?_) (fun _ => ?_) | refine frcVs_i ?_ | refine frcRs_i ?_) | ((with_reducible refine qCall.pure (cN) ?_ ?_ ?_ ?_); rotate_left 4; exact trivial; exact plT; exact plT)) <;> (conv => whnf))))
      (refine qConv.of hB [] [(0, 0)] [] (by rfl) ?_; focus ((conv => whnf); (repeat (refine And.intro ?_ ?_; rotate_left; (conv => whnf))); exact trivial; all_goals (try exact andT)))
    | true =>
      rw [hw] at cN
      rw [Bool.true_and]
      obtain ⟨b, hb⟩ : ∃ b, connsB count 0 [] l = b := ⟨_, rfl⟩
      rw [hb]
      refine ACallL.of_ev mixed Tryz.func14 rfl (fun a w => Tryz.call14 a w) (congrArg Array.toList Tryz.results14) Tryz.ntmps14 fun B hB => ?_
      ((conv => whnf); (repeat' ((first | (with_reducible first | refine qif_n ?_ | refine qif_t ‹_› ?_ | refine qif_f ‹_› ?_) | ((with_reducible refine qif_t ?_ ?_); focus decide) | ((with_reducible refine qif_f ?_ ?_); focus decide) | (with_reducible refine And.intro (orderOk_i ?ho) ?_; (case ho => kernel_rfl)) | ((with_reducible refine qif_t ?_ ?_); focus (simp []; done)) | ((with_reducible refine qif_f ?_ ?_); focus (simp []; done)) | (with_reducible first | refine qif_i (fun _ => ?_) (fun _ => ?_) | refine frcVs_i ?_ | refine frcRs_i ?_) | ((with_reducible refine qCall.pure (cN) ?_ ?_ ?_ ?_); rotate_left 4; exact trivial; exact plT; exact plT)) <;> (conv => whnf))))
      refine qAW.loopE mixed (X := Nat) (fun i => slotsOf 94 [(1, .ptr 1 0 0), (2, .val (.bool false)), (3, .val (.int .i64 i))]) (fun i => [.perm, .live ⟨2, 24, [[.list 0 16 (l.map (cnR 0)), .val (.int .i64 count)]]⟩])
        (fun i => i ≤ l.length ∧ (0 < i → 1 ≤ lastK l i) ∧ connsB count (lastK l i) (l.take i) (l.drop i) = b) (fun i => l.length - i) 0 ⟨Nat.zero_le _, fun h => absurd h (Nat.lt_irrefl _), hb⟩ ?_ ?_
      · (refine qConv.of hB [(1, 1)] [(0, 0)] [] (by rfl) ?_; focus ((conv => whnf); (repeat (refine And.intro ?_ ?_; rotate_left; (conv => whnf))); exact trivial; all_goals (try exact andT)))
        all_goals first | rfl | (exact rowsT) | trace_state
      · rintro E i ⟨hi, h1, hgo⟩ hE
        have w := IntWalk.i64_in ((i : Int) + 1) (by omega)
        by_cases hlt : i < l.length
        · obtain ⟨c, hck⟩ : ∃ p, l[i]? = some p := ⟨_, List.getElem?_eq_getElem hlt⟩
          have hrow : (l.map (cnR 0))[(i : Int).toNat]? = some (cnR 0 c) := by simp [hck]
          obtain ⟨p, hp⟩ : ∃ p, 0 < i → l[i - 1]? = some p := by
            by_cases h0 : 0 < i
            · exact ⟨l[i - 1], fun _ => List.getElem?_eq_getElem (by omega)⟩
            · exact ⟨cnZ, fun h => absurd h h0⟩
          have hrowp : 0 < i → (l.map (cnR 0))[(IntKind.i64.wrap ((i : Int) - 1)).toNat]? = some (cnR 0 p) := fun h => by
            rw [IntWalk.i64_in _ (by omega), show ((i : Int) - 1).toNat = i - 1 by omega]; simp [hp h]
          have wge : 0 < i → 0 ≤ IntKind.i64.wrap ((i : Int) - 1) := fun h => by rw [IntWalk.i64_in _ (by omega)]; omega
          have p1 := pl_bytes c.out
          have p2 := pl_parts c.parts
          have cC := refConn_l c (hc c (List.mem_of_getElem? hck))
          dsimp only [cnR, cnL] at cC
          rcases conn_ways hck h1 hgo p hp with ⟨rfl, ways⟩ | ⟨v1, v2, v3, v4, v5, v7, hlk, hgo2⟩
          · rcases ways with v1 | ⟨v1, v2⟩ | ⟨v1, v2, v3⟩ | ⟨v1, v2, v3, v4⟩ | ⟨v1, v2, v3, v4, (⟨v5, v6⟩ | ⟨v5, v6, v7⟩ | ⟨v5, v7⟩)⟩
            all_goals
              rw [v1] at cC
              try (have h0i : 0 < i := by have := of_decide_eq_true v5; omega)
              subst hE
              ((conv => whnf); (repeat' ((first | (with_reducible first | refine qif_n ?_ | refine qif_t ‹_› ?_ | refine qif_f ‹_› ?_) | ((with_reducible refine qif_t ?_ ?_); focus decide) | ((with_reducible refine qif_f ?_ ?_); focus decide) | (with_reducible refine And.intro (orderOk_i ?ho) ?_; (case ho => kernel_rfl)) | ((with_reducible refine qif_t ?_ ?_); focus (simp [hlt]; done)) | ((with_reducible refine qif_f ?_ ?_); focus (simp [hlt]; done)) | (with_reducible first | refine qif_i (fun _ => ?_) (fun _ => ?_) | refine frcVs_i ?_ | refine frcRs_i ?_) | ((with_reducible refine qCall.pure (cC) ?_ ?_ ?_ ?_); rotate_left 4; exact trivial; exact plT; exact plT) | (refine qCase_i (idxL rfl rfl rfl rfl rfl rfl (by omega) hrow) ?_) | (refine qCase_i (idxL rfl rfl rfl rfl rfl rfl (wge h0i) (hrowp h0i)) ?_)) <;> (conv => whnf))))
              (refine qConv.of hB [] [(0, 0)] [] (by rfl) ?_; focus ((conv => whnf); (repeat (refine And.intro ?_ ?_; rotate_left; (conv => whnf))); exact trivial; all_goals (try exact andT)))
          · rw [v1] at cC
            rcases v5 with ⟨v5, v6⟩ | v5
            all_goals
              try (have h0i : 0 < i := by have := of_decide_eq_true v5; omega)
              subst hE
              ((conv => whnf); (repeat' ((first | (with_reducible first | refine qif_n ?_ | refine qif_t ‹_› ?_ | refine qif_f ‹_› ?_) | ((with_reducible refine qif_t ?_ ?_); focus decide) | ((with_reducible refine qif_f ?_ ?_); focus decide) | (with_reducible refine And.intro (orderOk_i ?ho) ?_; (case ho => kernel_rfl)) | ((with_reducible refine qif_t ?_ ?_); focus (simp [hlt]; done)) | ((with_reducible refine qif_f ?_ ?_); focus (simp [hlt]; done)) | (with_reducible first | refine qif_i (fun _ => ?_) (fun _ => ?_) | refine frcVs_i ?_ | refine frcRs_i ?_) | ((with_reducible refine qCall.pure (cC) ?_ ?_ ?_ ?_); rotate_left 4; exact trivial; exact plT; exact plT) | (refine qCase_i (idxL rfl rfl rfl rfl rfl rfl (by omega) hrow) ?_) | (refine qCase_i (idxL rfl rfl rfl rfl rfl rfl (wge h0i) (hrowp h0i)) ?_)) <;> (conv => whnf))))
              refine qAW.loopE mixed (X := Nat) (fun k => slotsOf 94 [(1, .ptr 1 0 0), (2, .val (.bool false)), (3, .val (.int .i64 i)), (4, .ptr 2 0 0), (5, .val (.int .i64 k))]) (fun _ => [.perm, .live ⟨2, 24, [[.list 0 16 (l.map (cnR 0)), .val (.int .i64 count)]]⟩, .live ⟨16, 50, [cnR 0 c]⟩])
                (fun k => k ≤ i ∧ seenB c (l.take k) = false) (fun k => i - k) 0 ⟨Nat.zero_le _, rfl⟩ ?_ ?_
              · (refine qConv.of hB [(1, 1), (2, 2)] [(0, 0)] [] (by rfl) ?_; focus ((conv => whnf); (repeat (refine And.intro ?_ ?_; rotate_left; (conv => whnf))); exact trivial; all_goals (try exact andT)))
                all_goals first | rfl | (exact rowsT) | exact RowsRen.one (cn_rr rfl c) | trace_state
              · rintro E k ⟨hk, hno⟩ hE
                have wk := IntWalk.i64_in ((k : Int) + 1) (by omega)
                by_cases hkt : k < i
                · obtain ⟨d, hdk⟩ : ∃ p, l[k]? = some p := ⟨_, List.getElem?_eq_getElem (by omega)⟩
                  have hrowd : (l.map (cnR 0))[(k : Int).toNat]? = some (cnR 0 d) := by simp [hdk]
                  have hse : seenB c (l.take (k + 1)) = (d.ip == c.ip && d.pp == c.pp) := by
                    rw [take_snoc hdk]
                    have : seenB c (l.take k ++ [d]) = (seenB c (l.take k) || (d.ip == c.ip && d.pp == c.pp)) := by unfold seenB; simp
                    rw [this, hno, Bool.false_or]
                  obtain ⟨u1, hu1⟩ : ∃ b, (d.ip == c.ip) = b := ⟨_, rfl⟩
                  obtain ⟨u2, hu2⟩ : ∃ b, (d.pp == c.pp) = b := ⟨_, rfl⟩
                  rw [hu1, hu2] at hse
                  by_cases hsame : (u1 && u2) = true
                  · rw [hsame] at hse
                    have hb0 : b = false := by
                      rw [← hgo2]
                      have : seenB c (l.take i) = true := by
                        unfold seenB at hse ⊢
                        rw [List.any_eq_true] at hse ⊢
                        obtain ⟨x, hx, hx2⟩ := hse
                        refine ⟨x, ?_, hx2⟩
                        have : l.take (k + 1) = (l.take i).take (k + 1) := by rw [List.take_take, Nat.min_eq_left (by omega)]
                        rw [this] at hx
                        exact List.mem_of_mem_take hx
                      rw [this]; rfl
                    rw [hb0] at hE
                    rw [Bool.and_eq_true] at hsame
                    obtain ⟨rfl, rfl⟩ := hsame
                    subst hE
                    ((conv => whnf); (repeat' ((first | (with_reducible first | refine qif_n ?_ | refine qif_t ‹_› ?_ | refine qif_f ‹_› ?_) | ((with_reducible refine qif_t ?_ ?_); focus decide) | ((with_reducible refine qif_f ?_ ?_); focus decide) | (with_reducible refine And.intro (orderOk_i ?ho) ?_; (case ho => kernel_rfl)) | ((with_reducible refine qif_t ?_ ?_); focus (simp [hkt]; done)) | ((with_reducible refine qif_f ?_ ?_); focus (simp [hkt]; done)) | (with_reducible first | refine qif_i (fun _ => ?_) (fun _ => ?_) | refine frcVs_i ?_ | refine frcRs_i ?_) | (refine qCase_i (idxL rfl rfl rfl rfl rfl rfl (by omega) hrowd) ?_)) <;> (conv => whnf))))
                    (refine qConv.of hB [] [(0, 0)] [] (by rfl) ?_; focus ((conv => whnf); (repeat (refine And.intro ?_ ?_; rotate_left; (conv => whnf))); exact trivial; all_goals (try exact andT)))
                  · have hsame : (u1 && u2) = false := by simpa using hsame
                    rw [hsame] at hse
                    have hu : (d.ip == c.ip) = false ∨ (d.ip == c.ip) = true ∧ (d.pp == c.pp) = false := by
                      rw [hu1, hu2]; cases u1 <;> cases u2 <;> simp_all
                    clear hu1 hu2
                    subst hE
                    rcases hu with hu1 | ⟨hu1, hu2⟩
                    all_goals
                      ((conv => whnf); (repeat' ((first | (with_reducible first | refine qif_n ?_ | refine qif_t ‹_› ?_ | refine qif_f ‹_› ?_) | ((with_reducible refine qif_t ?_ ?_); focus decide) | ((with_reducible refine qif_f ?_ ?_); focus decide) | (with_reducible refine And.intro (orderOk_i ?ho) ?_; (case ho => kernel_rfl)) | ((with_reducible refine qif_t ?_ ?_); focus (simp [hkt]; done)) | ((with_reducible refine qif_f ?_ ?_); focus (simp [hkt]; done)) | (with_reducible first | refine qif_i (fun _ => ?_) (fun _ => ?_) | refine frcVs_i ?_ | refine frcRs_i ?_) | (refine qCase_i (idxL rfl rfl rfl rfl rfl rfl (by omega) hrowd) ?_)) <;> (conv => whnf))))
                      refine ⟨k + 1, ⟨by omega, hse⟩, by omega, ?_⟩
                      (refine qConv.of hB [(1, 1), (2, 2)] [(0, 0)] [] (by rfl) ?_; focus ((conv => whnf); (repeat (refine And.intro ?_ ?_; rotate_left; (conv => whnf))); exact trivial; all_goals (try exact andT)))
                      all_goals first | rfl | (simp [wk]; done) | (exact rowsT) | exact RowsRen.one (cn_rr rfl c) | trace_state
                · have e : k = i := by omega
                  subst e
                  rw [hno, Bool.not_false, Bool.true_and] at hgo2
                  subst hE
                  ((conv => whnf); (repeat' ((first | (with_reducible first | refine qif_n ?_ | refine qif_t ‹_› ?_ | refine qif_f ‹_› ?_) | ((with_reducible refine qif_t ?_ ?_); focus decide) | ((with_reducible refine qif_f ?_ ?_); focus decide) | (with_reducible refine And.intro (orderOk_i ?ho) ?_; (case ho => kernel_rfl)) | ((with_reducible refine qif_t ?_ ?_); focus (simp [hkt]; done)) | ((with_reducible refine qif_f ?_ ?_); focus (simp [hkt]; done)) | (with_reducible first | refine qif_i (fun _ => ?_) (fun _ => ?_) | refine frcVs_i ?_ | refine frcRs_i ?_)) <;> (conv => whnf))))
                  refine ⟨k + 1, ⟨by omega, fun _ => by unfold lastK; simpa [List.getD, hck] using hlk, hgo2⟩, by omega, ?_⟩
                  (refine qConv.of hB [(1, 1)] [(0, 0)] [] (by rfl) ?_; focus ((conv => whnf); (repeat (refine And.intro ?_ ?_; rotate_left; (conv => whnf))); exact trivial; all_goals (try exact andT)))
                  all_goals first | rfl | (simp [w]; done) | (exact rowsT) | trace_state
        · have e : i = l.length := by omega
          subst e
          rw [List.drop_of_length_le (Nat.le_refl _), connsB] at hgo
          subst hgo
          subst hE
          ((conv => whnf); (repeat' ((first | (with_reducible first | refine qif_n ?_ | refine qif_t ‹_› ?_ | refine qif_f ‹_› ?_) | ((with_reducible refine qif_t ?_ ?_); focus decide) | ((with_reducible refine qif_f ?_ ?_); focus decide) | (with_reducible refine And.intro (orderOk_i ?ho) ?_; (case ho => kernel_rfl)) | ((with_reducible refine qif_t ?_ ?_); focus (simp [hlt]; done)) | ((with_reducible refine qif_f ?_ ?_); focus (simp [hlt]; done)) | (with_reducible first | refine qif_i (fun _ => ?_) (fun _ => ?_) | refine frcVs_i ?_ | refine frcRs_i ?_)) <;> (conv => whnf))))
          (refine qConv.of hB [] [(0, 0)] [] (by rfl) ?_; focus ((conv => whnf); (repeat (refine And.intro ?_ ?_; rotate_left; (conv => whnf))); exact trivial; all_goals (try exact andT)))
  · have g8 : decide (8 < ((l.map (cnR 0)).length : Int)) = true := by simp; omega
    rw [show decide (l.length ≤ 8) = false by simpa using h8, Bool.false_and, Bool.and_false]
    refine ACallL.of_ev mixed Tryz.func14 rfl (fun a w => Tryz.call14 a w) (congrArg Array.toList Tryz.results14) Tryz.ntmps14 fun B hB => ?_
    ((conv => whnf); (repeat' ((first | (with_reducible first | refine qif_n ?_ | refine qif_t ‹_› ?_ | refine qif_f ‹_› ?_) | ((with_reducible refine qif_t ?_ ?_); focus decide) | ((with_reducible refine qif_f ?_ ?_); focus decide) | (with_reducible refine And.intro (orderOk_i ?ho) ?_; (case ho => kernel_rfl)) | ((with_reducible refine qif_t ?_ ?_); focus (simp []; done)) | ((with_reducible refine qif_f ?_ ?_); focus (simp []; done)) | (with_reducible first | refine qif_i (fun _ => ?_) (fun _ => ?_) | refine frcVs_i ?_ | refine frcRs_i ?_) | ((with_reducible refine qCall.pure (cN) ?_ ?_ ?_ ?_); rotate_left 4; exact trivial; exact plT; exact plT)) <;> (conv => whnf))))
    (refine qConv.of hB [] [(0, 0)] [] (by rfl) ?_; focus ((conv => whnf); (repeat (refine And.intro ?_ ?_; rotate_left; (conv => whnf))); exact trivial; all_goals (try exact andT)))
end Go.Proofs.YtceohcbokbalhaaGreat

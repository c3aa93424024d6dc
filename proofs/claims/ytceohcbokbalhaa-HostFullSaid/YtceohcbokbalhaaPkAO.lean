/- Contracts and plain laws, one behind the other: HostK, AhTcpFit, AhHeF, AhHoC, AhTcpS, AhTcpV, AhHoP, AhHoQ, AhHeK. Conditions are said at each. -/
import Derived.Test.YtceohcbokbalhaaPkAI
import Derived.Test.YtceohcbokbalhaaPkAL
import Derived.Test.YtceohcbokbalhaaPkAJ
import Derived.Test.YtceohcbokbalhaaPkAE
import Derived.Test.YtceohcbokbalhaaPkAD
/- What a host does with a segment: who stays: plain law. Conditions: what may be. -/
namespace Go.Proofs.Ytceohcbokbalhaa
open Go.RowKit
set_option linter.unusedVariables false
set_option linter.unusedSimpArgs false
set_option maxRecDepth 100000
end Go.Proofs.Ytceohcbokbalhaa

/- A segment made to fit a connection: on data. Conditions: lengths. -/
namespace Go.Proofs.Ytceohcbokbalhaa
open Go.RowKit
set_option linter.unusedVariables false
set_option linter.unusedSimpArgs false
set_option maxRecDepth 100000
set_option maxHeartbeats 4000000
end Go.Proofs.Ytceohcbokbalhaa

/- A segment made to fit a host's connection: on data. Conditions: lengths. -/
namespace Go.Proofs.Ytceohcbokbalhaa
open Go.RowKit
set_option linter.unusedVariables false
set_option linter.unusedSimpArgs false
set_option maxRecDepth 100000
set_option maxHeartbeats 4000000
end Go.Proofs.Ytceohcbokbalhaa

/- Hosts copied, compared; segments with whom they are for compared: on data. Conditions: lengths. -/
namespace Go.Proofs.Ytceohcbokbalhaa
open Go.RowKit
set_option linter.unusedVariables false
set_option linter.unusedSimpArgs false
set_option maxRecDepth 100000
set_option maxHeartbeats 4000000
section
variable {L I F : Prs} {h : Hp} {o p d o' p' d' r : Nat}
end
theorem eqConns_l (l : List Cn) (hl : l.length ≤ 100000) (hc : ∀ c ∈ l, CnLen c) : ACallL Try.prog 38 [.list 0 16 (l.map (cnR 0)), .list 0 16 (l.map (cnR 0))] [.perm] (.val (.bool true)) [.perm] := by
  have ll : (l.map (cnR 0)).length = l.length := by simp
  have px := pl_cns l
  refine ACallL.of_ev mixed Try.func38 rfl (fun a w => Try.call38 a w) (congrArg Array.toList Try.results38) Try.ntmps38 fun B hB => ?_
  ((conv => whnf); (repeat' ((first | (with_reducible first | refine qif_n ?_ | refine qif_t ‹_› ?_ | refine qif_f ‹_› ?_) | ((with_reducible refine qif_t ?_ ?_); focus decide) | ((with_reducible refine qif_f ?_ ?_); focus decide) | (with_reducible refine And.intro (orderOk_i ?ho) ?_; (case ho => kernel_rfl)) | ((with_reducible refine qif_t ?_ ?_); focus (simp []; done)) | ((with_reducible refine qif_f ?_ ?_); focus (simp []; done)) | (with_reducible first | refine qif_i (fun _ => ?_) (fun _ => ?_) | refine frcVs_i ?_ | refine frcRs_i ?_)) <;> (conv => whnf))))
  refine qAW.loopE mixed (X := Nat) (fun k => slotsOf 27 [(0, .list 0 16 (l.map (cnR 0))), (1, .list 0 16 (l.map (cnR 0))), (5, .val (.int .i64 k))]) (fun k => [.perm])
    (fun k => k ≤ l.length) (fun k => l.length - k) 0 (Nat.zero_le _) ?_ ?_
  · (refine qConv.of hB [] [(0, 0)] [] (by rfl) ?_; focus ((conv => whnf); (repeat (refine And.intro ?_ ?_; rotate_left; (conv => whnf))); exact trivial; all_goals (try exact andT)))
    all_goals rfl
  · rintro E k hk hE
    by_cases hlt : k < l.length
    · obtain ⟨c, hck⟩ : ∃ p, l[k]? = some p := ⟨_, List.getElem?_eq_getElem hlt⟩
      have hrow : (l.map (cnR 0))[(k : Int).toNat]? = some (cnR 0 c) := by simp [hck]
      have p1 := pl_bytes c.out
      have p2 := pl_parts c.parts
      have w := IntWalk.i64_in (k + 1) (by omega)
      have cE := eqConn_l c c (hc c (List.mem_of_getElem? hck))
      rw [decide_eq_true (rfl : c = c)] at cE
      dsimp only [cnR, cnL] at cE
      subst hE
      ((conv => whnf); (repeat' ((first | (with_reducible first | refine qif_n ?_ | refine qif_t ‹_› ?_ | refine qif_f ‹_› ?_) | ((with_reducible refine qif_t ?_ ?_); focus decide) | ((with_reducible refine qif_f ?_ ?_); focus decide) | (with_reducible refine And.intro (orderOk_i ?ho) ?_; (case ho => kernel_rfl)) | ((with_reducible refine qif_t ?_ ?_); focus (simp [hlt]; done)) | ((with_reducible refine qif_f ?_ ?_); focus (simp [hlt]; done)) | (with_reducible first | refine qif_i (fun _ => ?_) (fun _ => ?_) | refine frcVs_i ?_ | refine frcRs_i ?_) | ((with_reducible refine qCall.pure (cE) ?_ ?_ ?_ ?_); rotate_left 4; exact trivial; exact plT; exact plT) | (refine qCase_i (idxL rfl rfl rfl rfl rfl rfl (by omega) hrow) ?_)) <;> (conv => whnf))))
      refine ⟨k + 1, by omega, by omega, ?_⟩
      (refine qConv.of hB [] [(0, 0)] [] (by rfl) ?_; focus ((conv => whnf); (repeat (refine And.intro ?_ ?_; rotate_left; (conv => whnf))); exact trivial; all_goals (try exact andT)))
      all_goals first | rfl | (simp [w]; done)
    · subst hE
      ((conv => whnf); (repeat' ((first | (with_reducible first | refine qif_n ?_ | refine qif_t ‹_› ?_ | refine qif_f ‹_› ?_) | ((with_reducible refine qif_t ?_ ?_); focus decide) | ((with_reducible refine qif_f ?_ ?_); focus decide) | (with_reducible refine And.intro (orderOk_i ?ho) ?_; (case ho => kernel_rfl)) | ((with_reducible refine qif_t ?_ ?_); focus (simp [hlt]; done)) | ((with_reducible refine qif_f ?_ ?_); focus (simp [hlt]; done)) | (with_reducible first | refine qif_i (fun _ => ?_) (fun _ => ?_) | refine frcVs_i ?_ | refine frcRs_i ?_)) <;> (conv => whnf))))
      (refine qConv.of hB [] [(0, 0)] [] (by rfl) ?_; focus ((conv => whnf); (repeat (refine And.intro ?_ ?_; rotate_left; (conv => whnf))); exact trivial; all_goals (try exact andT)))
theorem eqHost_l (h : Ho) (hl : h.conns.length ≤ 100000) (hc : ∀ c ∈ h.conns, CnLen c) : ACallL Try.prog 15 [.agg (hoR h), .agg (hoR h)] [.perm] (.val (.bool true)) [.perm] := by
  have px := pl_cns h.conns
  have cE := eqConns_l h.conns hl hc
  dsimp only [hoR]
  refine ACallL.of_ev mixed Try.func15 rfl (fun a w => Try.call15 a w) (congrArg Array.toList Try.results15) Try.ntmps15 fun B hB => ?_
  ((conv => whnf); (repeat' ((first | (with_reducible first | refine qif_n ?_ | refine qif_t ‹_› ?_ | refine qif_f ‹_› ?_) | ((with_reducible refine qif_t ?_ ?_); focus decide) | ((with_reducible refine qif_f ?_ ?_); focus decide) | (with_reducible refine And.intro (orderOk_i ?ho) ?_; (case ho => kernel_rfl)) | ((with_reducible refine qif_t ?_ ?_); focus (simp []; done)) | ((with_reducible refine qif_f ?_ ?_); focus (simp []; done)) | (with_reducible first | refine qif_i (fun _ => ?_) (fun _ => ?_) | refine frcVs_i ?_ | refine frcRs_i ?_) | ((with_reducible refine qCall.pure (cE) ?_ ?_ ?_ ?_); rotate_left 4; exact trivial; exact plT; exact plT)) <;> (conv => whnf))))
  all_goals (refine qConv.of hB [] [(0, 0)] [] (by rfl) ?_; focus ((conv => whnf); (repeat (refine And.intro ?_ ?_; rotate_left; (conv => whnf))); exact trivial; all_goals (try exact andT)))
end Go.Proofs.Ytceohcbokbalhaa

/- The page's connection sends what it may: on data. Conditions: bounds. -/
namespace Go.Proofs.Ytceohcbokbalhaa
open Go.RowKit
set_option linter.unusedVariables false
set_option linter.unusedSimpArgs false
set_option maxRecDepth 100000
set_option maxHeartbeats 4000000
end Go.Proofs.Ytceohcbokbalhaa

/- The page's connection sends, is closed, aborted, opened: on data. Conditions: lengths. -/
namespace Go.Proofs.Ytceohcbokbalhaa
open Go.RowKit
set_option linter.unusedVariables false
set_option linter.unusedSimpArgs false
set_option maxRecDepth 100000
set_option maxHeartbeats 4000000
end Go.Proofs.Ytceohcbokbalhaa

/- What the page says may be a host, where it finds a connection: on data. Conditions: lengths. -/
namespace Go.Proofs.Ytceohcbokbalhaa
open Go.RowKit
set_option linter.unusedVariables false
set_option linter.unusedSimpArgs false
set_option maxRecDepth 100000
set_option maxHeartbeats 4000000
end Go.Proofs.Ytceohcbokbalhaa

/- The page's host: a connection is found, a step is put in its place: on data. Conditions: lengths. -/
namespace Go.Proofs.Ytceohcbokbalhaa
open Go.RowKit
set_option linter.unusedVariables false
set_option linter.unusedSimpArgs false
set_option maxRecDepth 100000
set_option maxHeartbeats 4000000
section
variable {L I F : Prs} {h : Hp}
theorem Ren.glR {b b' sz : Nat} {rows rows' : List (List AV)} (hb : I.has b b' = true) (hr : RowsRen (qOf L I F) h rows rows') : Ren (qOf L I F) h (.glist b sz rows) (.glist b' sz rows') :=
  .glist _ _ _ _ _ ((Prs.has_iff I _ _).1 hb) hr.1 hr.2.1 hr.2.2
end
end Go.Proofs.Ytceohcbokbalhaa

/- A host that may be stays one: on data. No condition but lengths. -/
-- sideX: first | exact cns_bor rfl rfl rfl _ rfl
namespace Go.Proofs.Ytceohcbokbalhaa
open Go.RowKit
set_option linter.unusedVariables false
set_option linter.unusedSimpArgs false
set_option maxRecDepth 100000
set_option maxHeartbeats 4000000
theorem hostTake_l (h : Ho) (ip : Int) (s : Sg) (H : HoI h) (hip : 0 ≤ ip ∧ ip ≤ 4294967295) (hs : sgB s = true) :
    ACallL Try.prog 10 [.agg (hoR h), .val (.int .i64 ip), .agg (sgR 0 s)] [.perm] (hsA (h.take ip s)) hsH := by
  obtain ⟨l, count⟩ := h
  unfold Ho.take
  dsimp only
  cases hf : l.findIdx? (hisB ip s) with
  | some i =>
    obtain ⟨c, hi, hp, hg⟩ := find_some hf
    dsimp only
    rw [hg]
    exact hostTake_at l count ip s H hip hs i c hf hi hp
  | none => exact hostTake_new l count ip s H hip hs hf
end Go.Proofs.Ytceohcbokbalhaa

/- Contracts and plain laws, one behind the other: AhHeK, AhHoA, AhHoW, AhHoX, AhHoY. Conditions are said at each. -/
import Derived.Test.YtceohcbokbalhaaPkAM
import Derived.Test.YtceohcbokbalhaaPkAL
import Derived.Test.YtceohcbokbalhaaPkAI
import Derived.Test.YtceohcbokbalhaaPkAJ
/- A host that may be stays one: on data. No condition but lengths. -/
-- sideX: first | exact cns_bor rfl rfl rfl _ rfl
namespace Go.Proofs.Ytceohcbokbalhaa
open Go.RowKit
set_option linter.unusedVariables false
set_option linter.unusedSimpArgs false
set_option maxRecDepth 100000
set_option maxHeartbeats 4000000
theorem hostTake_l (h : Ho) (ip : Int) (s : Sg) (H : HoI h) (hip : 0 ≤ ip ∧ ip ≤ 4294967295) (hs : sgB s = true) :
    ACallL Try.prog 10 [.agg (hoR h), .val (.int .i64 ip), .agg (sgR 0 s)] [.perm] (hsA (h.take ip s)) hsH := by
  obtain ⟨l, count⟩ := h
  unfold Ho.take
  dsimp only
  cases hf : l.findIdx? (hisB ip s) with
  | some i =>
    obtain ⟨c, hi, hp, hg⟩ := find_some hf
    dsimp only
    rw [hg]
    exact hostTake_at l count ip s H hip hs i c hf hi hp
  | none => exact hostTake_new l count ip s H hip hs hf
end Go.Proofs.Ytceohcbokbalhaa

/- Where the connection of a number is: on data. Conditions: lengths; the numbers rise. -/
namespace Go.Proofs.Ytceohcbokbalhaa
open Go.RowKit
set_option linter.unusedVariables false
set_option linter.unusedSimpArgs false
set_option maxRecDepth 100000
set_option maxHeartbeats 4000000
theorem isNaN_l (n : Int) : ACallL Try.prog 95 [.val (.int .i64 n)] [.perm] (.val (.bool false)) [.perm] := by
  refine ACallL.of_ev mixed Try.func95 rfl (fun a w => Try.call95 a w) (congrArg Array.toList Try.results95) Try.ntmps95 fun B hB => ?_
  ((conv => whnf); (repeat' ((first | (with_reducible first | refine qif_n ?_ | refine qif_t ‹_› ?_ | refine qif_f ‹_› ?_) | ((with_reducible refine qif_t ?_ ?_); focus decide) | ((with_reducible refine qif_f ?_ ?_); focus decide) | (with_reducible refine And.intro (orderOk_i ?ho) ?_; (case ho => kernel_rfl)) | (with_reducible first | refine qif_i (fun _ => ?_) (fun _ => ?_) | refine frcVs_i ?_ | refine frcRs_i ?_)) <;> (conv => whnf))))
  all_goals (refine qConv.of hB [] [(0, 0)] [] (by rfl) ?_; focus ((conv => whnf); (repeat (refine And.intro ?_ ?_; rotate_left; (conv => whnf))); exact trivial; all_goals (try exact andT)))
  all_goals simp
def cmpI (a b : Int) : Int := if a < b then -1 else if b < a then 1 else 0
theorem compare_l (a b : Int) : ACallL Try.prog 84 [.val (.int .i64 a), .val (.int .i64 b)] [.perm] (.val (.int .i64 (cmpI a b))) [.perm] := by
  refine ACallL.of_ev mixed Try.func84 rfl (fun a w => Try.call84 a w) (congrArg Array.toList Try.results84) Try.ntmps84 fun B hB => ?_
  ((conv => whnf); (repeat' ((first | (with_reducible first | refine qif_n ?_ | refine qif_t ‹_› ?_ | refine qif_f ‹_› ?_) | ((with_reducible refine qif_t ?_ ?_); focus decide) | ((with_reducible refine qif_f ?_ ?_); focus decide) | (with_reducible refine And.intro (orderOk_i ?ho) ?_; (case ho => kernel_rfl)) | (with_reducible first | refine qif_i (fun _ => ?_) (fun _ => ?_) | refine frcVs_i ?_ | refine frcRs_i ?_) | ((with_reducible refine qCall.pure (isNaN_l _) ?_ ?_ ?_ ?_); rotate_left 4; exact trivial; exact plT; exact plT)) <;> (conv => whnf))))
  all_goals (refine qConv.of hB [] [(0, 0)] [] (by rfl) ?_; focus ((conv => whnf); (repeat (refine And.intro ?_ ?_; rotate_left; (conv => whnf))); exact trivial; all_goals (try exact andT)))
  all_goals (congr 1; simp_all [cmpI] <;> omega)
theorem atC_l (c : Cn) (t : Int) : ACallL Try.prog 83 [.agg (cnR 0 c), .val (.int .i64 t)] [.perm] (.val (.int .i64 (cmpI c.link t))) [.perm] := by
  have px := pl_bytes c.out
  have py := pl_parts c.parts
  refine ACallL.of_ev mixed Try.func83 rfl (fun a w => Try.call83 a w) (congrArg Array.toList Try.results83) Try.ntmps83 fun B hB => ?_
  ((conv => whnf); (repeat' ((first | (with_reducible first | refine qif_n ?_ | refine qif_t ‹_› ?_ | refine qif_f ‹_› ?_) | ((with_reducible refine qif_t ?_ ?_); focus decide) | ((with_reducible refine qif_f ?_ ?_); focus decide) | (with_reducible refine And.intro (orderOk_i ?ho) ?_; (case ho => kernel_rfl)) | (with_reducible first | refine qif_i (fun _ => ?_) (fun _ => ?_) | refine frcVs_i ?_ | refine frcRs_i ?_) | ((with_reducible refine qCall.pure (compare_l _ _) ?_ ?_ ?_ ?_); rotate_left 4; exact trivial; exact plT; exact plT)) <;> (conv => whnf))))
  all_goals (refine qConv.of hB [] [(0, 0)] [] (by rfl) ?_; focus ((conv => whnf); (repeat (refine And.intro ?_ ?_; rotate_left; (conv => whnf))); exact trivial; all_goals (try exact andT)))
def posC : List Cn → Int → Nat
  | [], _ => 0
  | p :: l, t => if p.link < t then posC l t + 1 else 0
def srtC (l : List Cn) : Prop := l.Pairwise fun a b => a.link < b.link
def thereC (l : List Cn) (t : Int) : Bool := match l[posC l t]? with | some p => p.link == t | none => false
theorem posC_le (t : Int) : ∀ l : List Cn, posC l t ≤ l.length
  | [] => Nat.le_refl _
  | p :: l => by unfold posC; split; simpa using posC_le t l; simp
theorem posC_lt (t : Int) : ∀ {l : List Cn} (hs : srtC l) {h : Nat} {p : Cn}, l[h]? = some p → (p.link < t ↔ h < posC l t)
  | [], _, h, p, hp => by simp at hp
  | q :: l, hs, h, p, hp => by
    have hq := (List.pairwise_cons.1 hs).1
    have hl := (List.pairwise_cons.1 hs).2
    unfold posC
    cases h with
    | zero =>
      simp only [List.getElem?_cons_zero, Option.some.injEq] at hp
      subst hp
      split <;> simp_all
    | succ h =>
      simp only [List.getElem?_cons_succ] at hp
      have := posC_lt t hl hp
      have hlt := hq p (List.mem_of_getElem? hp)
      split
      · rw [this]; omega
      · simp; omega
theorem mid_eq (i j : Nat) (h : i + j ≤ 1000000000) : IntKind.i64.wrap ((IntKind.u64.wrap (IntKind.i64.wrap ((i : Int) + (j : Int)))).fdiv (2 ^ min (Int.toNat 1) IntKind.u64.bits)) = (((i + j) / 2 : Nat) : Int) := by
  have e : (2 : Int) ^ min (Int.toNat 1) IntKind.u64.bits = 2 := by decide
  have u : ∀ n : Int, IntKind.u64.wrap n = n % 18446744073709551616 := fun n => IntKind.wrap_u64 n
  have a1 := IntWalk.i64_in ((i : Int) + (j : Int)) (by omega)
  have a2 := IntWalk.i64_in (((i : Int) + (j : Int)) / 2) (by omega)
  rw [e, a1, u, Int.emod_eq_of_lt (by omega) (by omega), Int.fdiv_eq_ediv_of_nonneg _ (by decide), a2]
  omega
theorem bsearch_l (l : List Cn) (t : Int) (hs : srtC l) (hl : l.length ≤ 100000000) : ACallL Try.prog 82 [.list 0 16 (l.map (cnR 0)), .val (.int .i64 t), .clo 83 []] [.perm] (.tup [.val (.int .i64 (posC l t)), .val (.bool (thereC l t))]) [.perm] := by
  have lb : (l.map (cnR 0)).length = l.length := by simp
  have hpl := posC_le t l
  refine ACallL.of_ev mixed Try.func82 rfl (fun a w => Try.call82 a w) (congrArg Array.toList Try.results82) Try.ntmps82 fun B hB => ?_
  ((conv => whnf); (repeat' ((first | (with_reducible first | refine qif_n ?_ | refine qif_t ‹_› ?_ | refine qif_f ‹_› ?_) | ((with_reducible refine qif_t ?_ ?_); focus decide) | ((with_reducible refine qif_f ?_ ?_); focus decide) | (with_reducible refine And.intro (orderOk_i ?ho) ?_; (case ho => kernel_rfl)) | (with_reducible first | refine qif_i (fun _ => ?_) (fun _ => ?_) | refine frcVs_i ?_ | refine frcRs_i ?_)) <;> (conv => whnf))))
  refine qAW.loopE mixed (X := Nat × Nat) (fun x => slotsOf 49 [(0, .list 0 16 (l.map (cnR 0))), (1, .val (.int .i64 t)), (2, .clo 83 []), (8, .val (.int .i64 (l.map (cnR 0)).length)), (9, .val (.int .i64 x.1)), (10, .val (.int .i64 x.2))]) (fun x => [.perm])
    (fun x => x.1 ≤ posC l t ∧ posC l t ≤ x.2 ∧ x.2 ≤ l.length) (fun x => x.2 - x.1) (0, l.length) ⟨Nat.zero_le _, hpl, Nat.le_refl _⟩ ?_ ?_
  · (refine qConv.of hB [] [(0, 0)] [] (by rfl) ?_; focus ((conv => whnf); (repeat (refine And.intro ?_ ?_; rotate_left; (conv => whnf))); exact trivial; all_goals (try exact andT)))
    all_goals first | rfl | (simp; done)
  · rintro E ⟨i, j⟩ ⟨h1, h2, h3⟩ hE
    dsimp only at h1 h2 h3 ⊢
    by_cases hlt : i < j
    · obtain ⟨m, hm⟩ : ∃ m, (i + j) / 2 = m := ⟨_, rfl⟩
      have hmid := mid_eq i j (by omega)
      rw [hm] at hmid
      obtain ⟨M, hM⟩ : ∃ M, IntKind.i64.wrap ((IntKind.u64.wrap (IntKind.i64.wrap ((i : Int) + (j : Int)))).fdiv (2 ^ min (Int.toNat 1) IntKind.u64.bits)) = M := ⟨_, rfl⟩
      have hMm : M = m := hM ▸ hmid
      obtain ⟨c, hp⟩ : ∃ p, l[m]? = some p := ⟨_, List.getElem?_eq_getElem (by omega)⟩
      have hrow : (l.map (cnR 0))[M.toNat]? = some (cnR 0 c) := by simp [hMm, hp]
      have hpos := posC_lt t hs hp
      have hge : 0 ≤ M := by omega
      have w := IntWalk.i64_in (M + 1) (by omega)
      by_cases hc : c.link < t
      · have h4 := hpos.1 hc
        have hcmp : cmpI c.link t = -1 := by simp [cmpI, hc]
        have cC := atC_l c t
        rw [hcmp] at cC
        subst hE
        ((conv => whnf); (repeat' ((first | (with_reducible first | refine qif_n ?_ | refine qif_t ‹_› ?_ | refine qif_f ‹_› ?_) | ((with_reducible refine qif_t ?_ ?_); focus decide) | ((with_reducible refine qif_f ?_ ?_); focus decide) | (with_reducible refine And.intro (orderOk_i ?ho) ?_; (case ho => kernel_rfl)) | ((with_reducible refine qif_t ?_ ?_); focus (simp [hlt]; done)) | ((with_reducible refine qif_f ?_ ?_); focus (simp [hlt]; done)) | (with_reducible first | refine qif_i (fun _ => ?_) (fun _ => ?_) | refine frcVs_i ?_ | refine frcRs_i ?_) | ((rw [hM])) | ((with_reducible refine qCall.pure (cC) ?_ ?_ ?_ ?_); rotate_left 4; exact trivial; exact plT; exact plT) | (refine qCase_i (idxL rfl rfl rfl rfl rfl rfl hge hrow) ?_)) <;> (conv => whnf))))
        refine ⟨(m + 1, j), ⟨by dsimp only; omega, by dsimp only; omega, h3⟩, by dsimp only; omega, ?_⟩
        (refine qConv.of hB [] [(0, 0)] [] (by rfl) ?_; focus ((conv => whnf); (repeat (refine And.intro ?_ ?_; rotate_left; (conv => whnf))); exact trivial; all_goals (try exact andT)))
        all_goals first | rfl | (rw [w, hMm]; simp; done)
      · have h4 : ¬ m < posC l t := fun h => hc (hpos.2 h)
        obtain ⟨q, hq⟩ : ∃ q, cmpI c.link t = q := ⟨_, rfl⟩
        have hq0 : ¬ q < 0 := by rw [← hq]; unfold cmpI; rw [if_neg hc]; split <;> omega
        have cC := atC_l c t
        rw [hq] at cC
        subst hE
        ((conv => whnf); (repeat' ((first | (with_reducible first | refine qif_n ?_ | refine qif_t ‹_› ?_ | refine qif_f ‹_› ?_) | ((with_reducible refine qif_t ?_ ?_); focus decide) | ((with_reducible refine qif_f ?_ ?_); focus decide) | (with_reducible refine And.intro (orderOk_i ?ho) ?_; (case ho => kernel_rfl)) | ((with_reducible refine qif_t ?_ ?_); focus (simp [hlt, hq0]; done)) | ((with_reducible refine qif_f ?_ ?_); focus (simp [hlt, hq0]; done)) | (with_reducible first | refine qif_i (fun _ => ?_) (fun _ => ?_) | refine frcVs_i ?_ | refine frcRs_i ?_) | ((rw [hM])) | ((with_reducible refine qCall.pure (cC) ?_ ?_ ?_ ?_); rotate_left 4; exact trivial; exact plT; exact plT) | (refine qCase_i (idxL rfl rfl rfl rfl rfl rfl hge hrow) ?_)) <;> (conv => whnf))))
        refine ⟨(i, m), ⟨h1, by dsimp only; omega, by dsimp only; omega⟩, by dsimp only; omega, ?_⟩
        (refine qConv.of hB [] [(0, 0)] [] (by rfl) ?_; focus ((conv => whnf); (repeat (refine And.intro ?_ ?_; rotate_left; (conv => whnf))); exact trivial; all_goals (try exact andT)))
        all_goals first | rfl | (simp [hMm]; done)
    · have hij : i = posC l t := by omega
      by_cases hend : i < l.length
      · obtain ⟨c, hp⟩ : ∃ p, l[i]? = some p := ⟨_, List.getElem?_eq_getElem hend⟩
        have hrow : (l.map (cnR 0))[(i : Int).toNat]? = some (cnR 0 c) := by simp [hp]
        have hth : thereC l t = (c.link == t) := by unfold thereC; rw [← hij, hp]
        have hge : ¬ c.link < t := fun h => by have := (posC_lt t hs hp).1 h; omega
        have hcmp : (cmpI c.link t == 0) = (c.link == t) := by
          unfold cmpI
          rw [if_neg hge]
          by_cases h : t < c.link
          · rw [if_pos h]
            have h5 : ¬ c.link = t := by omega
            simp [h5]
          · rw [if_neg h]
            have h5 : c.link = t := by omega
            simp [h5]
        subst hE
        ((conv => whnf); (repeat' ((first | (with_reducible first | refine qif_n ?_ | refine qif_t ‹_› ?_ | refine qif_f ‹_› ?_) | ((with_reducible refine qif_t ?_ ?_); focus decide) | ((with_reducible refine qif_f ?_ ?_); focus decide) | (with_reducible refine And.intro (orderOk_i ?ho) ?_; (case ho => kernel_rfl)) | ((with_reducible refine qif_t ?_ ?_); focus (simp [hlt, hend]; done)) | ((with_reducible refine qif_f ?_ ?_); focus (simp [hlt, hend]; done)) | (with_reducible first | refine qif_i (fun _ => ?_) (fun _ => ?_) | refine frcVs_i ?_ | refine frcRs_i ?_) | ((with_reducible refine qCall.pure (atC_l _ _) ?_ ?_ ?_ ?_); rotate_left 4; exact trivial; exact plT; exact plT) | (refine qCase_i (idxL rfl rfl rfl rfl rfl rfl (by omega) hrow) ?_)) <;> (conv => whnf))))
        (refine qConv.of hB [] [(0, 0)] [] (by rfl) ?_; focus ((conv => whnf); (repeat (refine And.intro ?_ ?_; rotate_left; (conv => whnf))); exact trivial; all_goals (try exact andT)))
        all_goals first | rfl | (rw [hth, ← hcmp]; done) | (rw [hij]; done) | skip
      · have hth : thereC l t = false := by unfold thereC; rw [← hij, List.getElem?_eq_none (by omega)]
        subst hE
        ((conv => whnf); (repeat' ((first | (with_reducible first | refine qif_n ?_ | refine qif_t ‹_› ?_ | refine qif_f ‹_› ?_) | ((with_reducible refine qif_t ?_ ?_); focus decide) | ((with_reducible refine qif_f ?_ ?_); focus decide) | (with_reducible refine And.intro (orderOk_i ?ho) ?_; (case ho => kernel_rfl)) | ((with_reducible refine qif_t ?_ ?_); focus (simp [hlt, hend]; done)) | ((with_reducible refine qif_f ?_ ?_); focus (simp [hlt, hend]; done)) | (with_reducible first | refine qif_i (fun _ => ?_) (fun _ => ?_) | refine frcVs_i ?_ | refine frcRs_i ?_)) <;> (conv => whnf))))
        (refine qConv.of hB [] [(0, 0)] [] (by rfl) ?_; focus ((conv => whnf); (repeat (refine And.intro ?_ ?_; rotate_left; (conv => whnf))); exact trivial; all_goals (try exact andT)))
        all_goals first | rfl | (rw [hth]; done) | (rw [hij]; done) | skip
theorem at_l (l : List Cn) (count t : Int) (hs : srtC l) (hl : l.length ≤ 100000000) : ACallL Try.prog 59 [.agg (hoR ⟨l, count⟩), .val (.int .i64 t)] [.perm] (.tup [.val (.int .i64 (posC l t)), .val (.bool (thereC l t))]) [.perm] := by
  have px := pl_cns l
  have cB := bsearch_l l t hs hl
  dsimp only [hoR]
  refine ACallL.of_ev mixed Try.func59 rfl (fun a w => Try.call59 a w) (congrArg Array.toList Try.results59) Try.ntmps59 fun B hB => ?_
  ((conv => whnf); (repeat' ((first | (with_reducible first | refine qif_n ?_ | refine qif_t ‹_› ?_ | refine qif_f ‹_› ?_) | ((with_reducible refine qif_t ?_ ?_); focus decide) | ((with_reducible refine qif_f ?_ ?_); focus decide) | (with_reducible refine And.intro (orderOk_i ?ho) ?_; (case ho => kernel_rfl)) | (with_reducible first | refine qif_i (fun _ => ?_) (fun _ => ?_) | refine frcVs_i ?_ | refine frcRs_i ?_) | (((with_reducible refine qCall.reads (cB) [(0, 0)] [] ?hk ?_); (case hk => rfl); (conv => whnf); (repeat (refine And.intro ?_ ?_; exact sideT; (conv => whnf))); (fail_if_success (with_reducible first | refine And.intro (eqv_i ?_) ?_ | refine And.intro (ren_i ?_) ?_))))) <;> (conv => whnf))))
  (refine qConv.of hB [] [(0, 0)] [] (by rfl) ?_; focus ((conv => whnf); (repeat (refine And.intro ?_ ?_; rotate_left; (conv => whnf))); exact trivial; all_goals (try exact andT)))
theorem at_some {l : List Cn} {count t : Int} (hs : srtC l) (h : thereC l t = true) : ∃ c, l[posC l t]? = some c ∧ c.link = t ∧ Ho.at_ ⟨l, count⟩ t = some (posC l t) := by
  unfold thereC at h
  cases hp : l[posC l t]? with
  | none => rw [hp] at h; cases h
  | some c =>
    rw [hp] at h
    have hc : c.link = t := by simpa using h
    refine ⟨c, rfl, hc, ?_⟩
    unfold Ho.at_
    obtain ⟨hlt, e⟩ := List.getElem?_eq_some_iff.1 hp
    rw [List.findIdx?_eq_some_iff_getElem]
    have hlt2 : posC l t < l.length := hlt
    refine ⟨hlt, by rw [e]; simpa using hc, fun j hj => ?_⟩
    have := (posC_lt t hs (List.getElem?_eq_getElem (by omega : j < l.length))).2 hj
    simp only [beq_iff_eq, Bool.not_eq_true]
    intro e2
    omega
theorem at_none {l : List Cn} {count t : Int} (hs : srtC l) (h : thereC l t = false) : Ho.at_ ⟨l, count⟩ t = none := by
  unfold Ho.at_
  rw [List.findIdx?_eq_none_iff]
  intro c hc
  obtain ⟨j, hj⟩ := List.getElem?_of_mem hc
  by_cases e : c.link = t
  · exfalso
    have h1 := posC_lt t hs hj
    have h2 : ¬ j < posC l t := fun x => by have := h1.2 x; omega
    have hjl : j < l.length := (List.getElem?_eq_some_iff.1 hj).1
    have h3 : posC l t = j := by
      by_cases h4 : posC l t < j
      · have hp := List.getElem?_eq_getElem (show posC l t < l.length by omega)
        have h5 := (posC_lt t hs hp).1
        have h6 : ¬ (l[posC l t]'(by omega)).link < t := fun x => by have := h5 x; omega
        unfold srtC at hs
        rw [List.pairwise_iff_getElem] at hs
        have h7 := hs (posC l t) j (by omega) hjl h4
        have h8 : l[j] = c := (List.getElem?_eq_some_iff.1 hj).2
        rw [h8] at h7
        omega
      · omega
    unfold thereC at h
    rw [h3, hj] at h
    simp [e] at h
  · simpa using e
end Go.Proofs.Ytceohcbokbalhaa

/- Something is done with a host's connection: on data. Conditions: what may be. -/
-- sideX: first | exact cns_bor rfl rfl rfl _ rfl | exact cns_setS rfl rfl rfl rfl rfl rfl _ _ _ | exact RowsRen.app (cns_gg rfl rfl rfl _) zR_self
namespace Go.Proofs.Ytceohcbokbalhaa
open Go.RowKit
set_option linter.unusedVariables false
set_option linter.unusedSimpArgs false
set_option maxRecDepth 100000
set_option maxHeartbeats 4000000
abbrev hwA (y : Hs) : AV := .tup [.agg [.glist 1 16 (y.h.conns.map (cnG 2 3 4)), .val (.int .i64 y.h.count)], .glist 5 8 (y.out.map (snG 6)), .val (.int .i64 0)]
abbrev hwH : List Own := [.perm, .uniq, .uniq, .uniq, .uniq, .uniq, .uniq]
abbrev hwNo (e : Int) : AV := .tup [noHo, .val (.slice none 0 0), .val (.int .i64 e)]
end Go.Proofs.Ytceohcbokbalhaa

/- Bytes are sent by a host's connection: on data. Conditions: what may be. -/
-- sideX: first | exact cns_bor rfl rfl rfl _ rfl | exact cns_setS rfl rfl rfl rfl rfl rfl _ _ _ | exact RowsRen.app (cns_gg rfl rfl rfl _) zR_self
namespace Go.Proofs.Ytceohcbokbalhaa
open Go.RowKit
set_option linter.unusedVariables false
set_option linter.unusedSimpArgs false
set_option maxRecDepth 100000
set_option maxHeartbeats 4000000
abbrev bxB (xs : List Int) : Own := .live ⟨1, 31, [[bL 2 xs]]⟩
abbrev hwB (y : Hs) : AV := .tup [.agg [.glist 3 16 (y.h.conns.map (cnG 4 5 6)), .val (.int .i64 y.h.count)], .glist 7 8 (y.out.map (snG 8)), .val (.int .i64 0)]
abbrev hwHB (xs : List Int) : List Own := [.perm, bxB xs, .perm, .uniq, .uniq, .uniq, .uniq, .uniq, .uniq]
theorem with_no1B (F : FuncId) (xs : List Int) (h : Ho) (link : Int) (hc : ∀ c ∈ h.conns, CnLen c) (hl : h.conns.length ≤ 100000000) (hno : hostB h = false) :
    ACallL Try.prog 39 [.agg (hoR h), .val (.int .i64 link), .clo F [.ptr 1 0 0]] [.perm, bxB xs, .perm] (hwNo 1) [.perm, bxB xs, .perm] := by
  have px := pl_cns h.conns
  have cM := hostMay_l h hc hl
  rw [hno] at cM
  dsimp only [hoR] at cM ⊢
  refine ACallL.of_ev mixed Try.func39 rfl (fun a w => Try.call39 a w) (congrArg Array.toList Try.results39) Try.ntmps39 fun B hB => ?_
  ((conv => whnf); (repeat' ((first | (with_reducible first | refine qif_n ?_ | refine qif_t ‹_› ?_ | refine qif_f ‹_› ?_) | ((with_reducible refine qif_t ?_ ?_); focus decide) | ((with_reducible refine qif_f ?_ ?_); focus decide) | (with_reducible refine And.intro (orderOk_i ?ho) ?_; (case ho => kernel_rfl)) | ((with_reducible refine qif_t ?_ ?_); focus (simp []; done)) | ((with_reducible refine qif_f ?_ ?_); focus (simp []; done)) | (with_reducible first | refine qif_i (fun _ => ?_) (fun _ => ?_) | refine frcVs_i ?_ | refine frcRs_i ?_) | ((with_reducible refine qCall.pure (cM) ?_ ?_ ?_ ?_); rotate_left 4; exact trivial; exact plT; exact plT)) <;> (conv => whnf))))
  (refine qConv.of hB [(1, 1)] [(0, 0), (2, 2)] [] (by rfl) ?_; focus ((conv => whnf); (repeat (refine And.intro ?_ ?_; rotate_left; (conv => whnf))); exact trivial; all_goals (try exact andT)))
  all_goals first | rfl | (exact rowsT)
theorem with_no3B (F : FuncId) (xs : List Int) (l : List Cn) (count link : Int) (H : HoI ⟨l, count⟩) (hno : thereC l link = false) :
    ACallL Try.prog 39 [.agg (hoR ⟨l, count⟩), .val (.int .i64 link), .clo F [.ptr 1 0 0]] [.perm, bxB xs, .perm] (hwNo 3) [.perm, bxB xs, .perm] := by
  have px := pl_cns l
  have hl := H.len
  dsimp only at hl
  have hcl : ∀ d ∈ l, CnLen d := fun d hd => (H.ok d hd).1.I.cnLen
  have cM := hostMay_l ⟨l, count⟩ hcl (by dsimp only; omega)
  rw [(hostB_iff _).2 H] at cM
  have cA := at_l l count link H.up (by omega)
  rw [hno] at cA
  dsimp only [hoR] at cM cA ⊢
  refine ACallL.of_ev mixed Try.func39 rfl (fun a w => Try.call39 a w) (congrArg Array.toList Try.results39) Try.ntmps39 fun B hB => ?_
  ((conv => whnf); (repeat' ((first | (with_reducible first | refine qif_n ?_ | refine qif_t ‹_› ?_ | refine qif_f ‹_› ?_) | ((with_reducible refine qif_t ?_ ?_); focus decide) | ((with_reducible refine qif_f ?_ ?_); focus decide) | (with_reducible refine And.intro (orderOk_i ?ho) ?_; (case ho => kernel_rfl)) | ((with_reducible refine qif_t ?_ ?_); focus (simp []; done)) | ((with_reducible refine qif_f ?_ ?_); focus (simp []; done)) | (with_reducible first | refine qif_i (fun _ => ?_) (fun _ => ?_) | refine frcVs_i ?_ | refine frcRs_i ?_) | ((with_reducible refine qCall.pure (cM) ?_ ?_ ?_ ?_); rotate_left 4; exact trivial; exact plT; exact plT) | ((with_reducible refine qCall.pure (cA) ?_ ?_ ?_ ?_); rotate_left 4; exact trivial; exact plT; exact plT)) <;> (conv => whnf))))
  (refine qConv.of hB [(1, 1)] [(0, 0), (2, 2)] [] (by rfl) ?_; focus ((conv => whnf); (repeat (refine And.intro ?_ ?_; rotate_left; (conv => whnf))); exact trivial; all_goals (try exact andT)))
  all_goals first | rfl | (exact rowsT)
theorem with_noEB (F : FuncId) (xs : List Int) (l : List Cn) (count link e : Int) (H : HoI ⟨l, count⟩) (c : Cn) (ht : thereC l link = true) (hci : l[posC l link]? = some c) (he : (e != 0) = true) (cD : ACallL Try.prog F [.agg (cnR 0 c), .ptr 1 0 0] [.perm, bxB xs, .perm] (stNo e) [.perm, bxB xs, .perm]) :
    ACallL Try.prog 39 [.agg (hoR ⟨l, count⟩), .val (.int .i64 link), .clo F [.ptr 1 0 0]] [.perm, bxB xs, .perm] (hwNo e) [.perm, bxB xs, .perm] := by
  have px := pl_cns l
  have p1 := pl_bytes c.out
  have p2 := pl_parts c.parts
  have hl := H.len
  dsimp only at hl
  have hcl : ∀ d ∈ l, CnLen d := fun d hd => (H.ok d hd).1.I.cnLen
  have cM := hostMay_l ⟨l, count⟩ hcl (by dsimp only; omega)
  rw [(hostB_iff _).2 H] at cM
  have cA := at_l l count link H.up (by omega)
  rw [ht] at cA
  obtain ⟨i, hi⟩ : ∃ i, posC l link = i := ⟨_, rfl⟩
  rw [hi] at cA hci
  have hrow : (l.map (cnR 0))[(i : Int).toNat]? = some (cnR 0 c) := by simp [hci]
  dsimp only [hoR, cnR, cnL] at cM cA cD ⊢
  refine ACallL.of_ev mixed Try.func39 rfl (fun a w => Try.call39 a w) (congrArg Array.toList Try.results39) Try.ntmps39 fun B hB => ?_
  ((conv => whnf); (repeat' ((first | (with_reducible first | refine qif_n ?_ | refine qif_t ‹_› ?_ | refine qif_f ‹_› ?_) | ((with_reducible refine qif_t ?_ ?_); focus decide) | ((with_reducible refine qif_f ?_ ?_); focus decide) | (with_reducible refine And.intro (orderOk_i ?ho) ?_; (case ho => kernel_rfl)) | ((with_reducible refine qif_t ?_ ?_); focus (simp []; done)) | ((with_reducible refine qif_f ?_ ?_); focus (simp []; done)) | (with_reducible first | refine qif_i (fun _ => ?_) (fun _ => ?_) | refine frcVs_i ?_ | refine frcRs_i ?_) | ((with_reducible refine qCall.pure (cM) ?_ ?_ ?_ ?_); rotate_left 4; exact trivial; exact plT; exact plT) | ((with_reducible refine qCall.pure (cA) ?_ ?_ ?_ ?_); rotate_left 4; exact trivial; exact plT; exact plT) | (((with_reducible refine qCall.of (cD) [(1, 1)] [(0, 0), (2, 2)] [] [] [(1, bxB xs)] (stNo e) ?hk ?_); (case hk => rfl); (conv => whnf); (repeat (refine And.intro ?_ ?_; (focus (first | exact sideT | (first | exact cns_bor rfl rfl rfl _ rfl | exact cns_setS rfl rfl rfl rfl rfl rfl _ _ _ | exact RowsRen.app (cns_gg rfl rfl rfl _) zR_self))); (conv => whnf))); (fail_if_success (with_reducible first | refine And.intro (eqv_i ?_) ?_ | refine And.intro (ren_i ?_) ?_)))) | (refine qCase_i (idxL rfl rfl rfl rfl rfl rfl (by omega) hrow) ?_)) <;> (conv => whnf))))
  (refine qConv.of hB [(1, 1)] [(0, 0), (2, 2)] [] (by rfl) ?_; focus ((conv => whnf); (repeat (refine And.intro ?_ ?_; rotate_left; (conv => whnf))); exact trivial; all_goals (try exact andT)))
  all_goals first | rfl | (exact rowsT)
theorem with_lB (F : FuncId) (xs : List Int) (l : List Cn) (count link : Int) (H : HoI ⟨l, count⟩) (c : Cn) (ht : thereC l link = true) (hci : l[posC l link]? = some c) (y : Stp) (hyl : y.out.length ≤ 100000) (hip : y.c.ip = c.ip) (cD : ACallL Try.prog F [.agg (cnR 0 c), .ptr 1 0 0] [.perm, bxB xs, .perm] (.tup [.agg (cnG 3 4 5 y.c), .glist 6 7 (y.out.map (sgG 7)), .val (.int .i64 0)]) [.perm, bxB xs, .perm, .uniq, .uniq, .uniq, .uniq, .uniq]) :
    ACallL Try.prog 39 [.agg (hoR ⟨l, count⟩), .val (.int .i64 link), .clo F [.ptr 1 0 0]] [.perm, bxB xs, .perm] (hwB ⟨Ho.put ⟨l, count⟩ (posC l link) y.c, toS c.ip y.out, []⟩) (hwHB xs) := by
  have px := pl_cns l
  have p1 := pl_bytes c.out
  have p2 := pl_parts c.parts
  have hl := H.len
  dsimp only at hl
  have hcl : ∀ d ∈ l, CnLen d := fun d hd => (H.ok d hd).1.I.cnLen
  have cM := hostMay_l ⟨l, count⟩ hcl (by dsimp only; omega)
  rw [(hostB_iff _).2 H] at cM
  have cA := at_l l count link H.up (by omega)
  rw [ht] at cA
  obtain ⟨i, hi⟩ : ∃ i, posC l link = i := ⟨_, rfl⟩
  rw [hi] at cA hci ⊢
  have hil := (List.getElem?_eq_some_iff.1 hci).1
  have cO := hostOwn_l l count (fun e => by rw [e] at hil; cases hil) (by omega) hcl
  have hrow : (l.map (cnR 0))[(i : Int).toNat]? = some (cnR 0 c) := by simp [hci]
  have cTo := to_l y.c.ip y.out hyl
  rw [hip] at cTo
  unfold Ho.put
  dsimp only
  have hipr : y.c.ip = c.ip := hip
  cases hs0 : (y.c.st == 0)
  · have cSt := set_l l count i y.c hil hs0
    rw [cond_false]
    rw [← hip] at cTo ⊢
    dsimp only [hoR, cnR, cnL, stA] at cM cA cO cD ⊢
    refine ACallL.of_ev mixed Try.func39 rfl (fun a w => Try.call39 a w) (congrArg Array.toList Try.results39) Try.ntmps39 fun B hB => ?_
    ((conv => whnf); (repeat' ((first | (with_reducible first | refine qif_n ?_ | refine qif_t ‹_› ?_ | refine qif_f ‹_› ?_) | ((with_reducible refine qif_t ?_ ?_); focus decide) | ((with_reducible refine qif_f ?_ ?_); focus decide) | (with_reducible refine And.intro (orderOk_i ?ho) ?_; (case ho => kernel_rfl)) | ((with_reducible refine qif_t ?_ ?_); focus (simp []; done)) | ((with_reducible refine qif_f ?_ ?_); focus (simp []; done)) | (with_reducible first | refine qif_i (fun _ => ?_) (fun _ => ?_) | refine frcVs_i ?_ | refine frcRs_i ?_) | ((with_reducible refine qCall.pure (cM) ?_ ?_ ?_ ?_); rotate_left 4; exact trivial; exact plT; exact plT) | ((with_reducible refine qCall.pure (cA) ?_ ?_ ?_ ?_); rotate_left 4; exact trivial; exact plT; exact plT) | (refine qCase_i (idxL rfl rfl rfl rfl rfl rfl (by omega) hrow) ?_) | (((with_reducible refine qCall.of (cD) [(1, 1)] [(0, 0), (2, 2)] [] [(3, 5), (4, 6), (5, 7), (6, 8), (7, 9)] [(1, bxB xs), (5, .uniq), (6, .uniq), (7, .uniq), (8, .uniq), (9, .uniq)] (.tup [.agg (cnG 5 6 7 y.c), .glist 8 7 (y.out.map (sgG 9)), .val (.int .i64 0)]) ?hk ?_); (case hk => rfl); (conv => whnf); (repeat (refine And.intro ?_ ?_; (focus (first | exact sideT | (first | exact cns_bor rfl rfl rfl _ rfl | exact cns_setS rfl rfl rfl rfl rfl rfl _ _ _ | exact RowsRen.app (cns_gg rfl rfl rfl _) zR_self))); (conv => whnf))); (fail_if_success (with_reducible first | refine And.intro (eqv_i ?_) ?_ | refine And.intro (ren_i ?_) ?_)))) | (((with_reducible refine qCall.of (cO) [] [(0, 0)] [] [(1, 11), (2, 12), (3, 13), (4, 14)] [(11, cnB' (l.map (cnG 12 13 14))), (12, .uniq), (13, .uniq), (14, .uniq)] (.agg [.sl 11 0 l.length, .val (.int .i64 count)]) ?hk ?_); (case hk => rfl); (conv => whnf); (repeat (refine And.intro ?_ ?_; (focus (first | exact sideT | (first | exact cns_bor rfl rfl rfl _ rfl | exact cns_setS rfl rfl rfl rfl rfl rfl _ _ _ | exact RowsRen.app (cns_gg rfl rfl rfl _) zR_self))); (conv => whnf))); (fail_if_success (with_reducible first | refine And.intro (eqv_i ?_) ?_ | refine And.intro (ren_i ?_) ?_)))) | (((with_reducible refine qCall.of (cSt) [(1, 3), (2, 11)] [(0, 0), (3, 5), (4, 6), (5, 7), (6, 12), (7, 13), (8, 14)] [] [] [(3, hoB 11 l.length count), (11, cnB' ((l.map (cnG 12 13 14)).set i (cnG 5 6 7 y.c)))] (.tup []) ?hk ?_); (case hk => rfl); (conv => whnf); (repeat (refine And.intro ?_ ?_; (focus (first | exact sideT | (first | exact cns_bor rfl rfl rfl _ rfl | exact cns_setS rfl rfl rfl rfl rfl rfl _ _ _ | exact RowsRen.app (cns_gg rfl rfl rfl _) zR_self))); (conv => whnf))); (fail_if_success (with_reducible first | refine And.intro (eqv_i ?_) ?_ | refine And.intro (ren_i ?_) ?_)))) | (((with_reducible refine qCall.of (cTo) [] [(0, 0), (1, 8), (2, 9)] [] [(3, 15)] [(15, .uniq)] (.glist 15 8 ((toS y.c.ip y.out).map (snG 9))) ?hk ?_); (case hk => rfl); (conv => whnf); (repeat (refine And.intro ?_ ?_; (focus (first | exact sideT | (first | exact cns_bor rfl rfl rfl _ rfl | exact cns_setS rfl rfl rfl rfl rfl rfl _ _ _ | exact RowsRen.app (cns_gg rfl rfl rfl _) zR_self))); (conv => whnf))); (fail_if_success (with_reducible first | refine And.intro (eqv_i ?_) ?_ | refine And.intro (ren_i ?_) ?_))))) <;> (conv => whnf))))
    (refine qConv.of hB [(1, 1)] [(0, 0), (2, 2), (12, 4), (5, 4), (13, 5), (6, 5), (14, 6), (7, 6), (15, 7), (9, 8)] [(11, 3)] (by rfl) ?_; focus ((conv => whnf); (repeat (refine And.intro ?_ ?_; rotate_left; (conv => whnf))); exact trivial; all_goals (try exact andT)))
    all_goals first | rfl | exact cns_setF rfl rfl rfl rfl rfl rfl _ _ _ rfl | exact sns_gg rfl _ | (exact rowsT) | trace_state
  · have cSt := set_no l count i y.c hil (by omega) hs0
    rw [cond_true]
    rw [← hip] at cTo ⊢
    dsimp only [hoR, cnR, cnL, stA] at cM cA cO cD ⊢
    refine ACallL.of_ev mixed Try.func39 rfl (fun a w => Try.call39 a w) (congrArg Array.toList Try.results39) Try.ntmps39 fun B hB => ?_
    ((conv => whnf); (repeat' ((first | (with_reducible first | refine qif_n ?_ | refine qif_t ‹_› ?_ | refine qif_f ‹_› ?_) | ((with_reducible refine qif_t ?_ ?_); focus decide) | ((with_reducible refine qif_f ?_ ?_); focus decide) | (with_reducible refine And.intro (orderOk_i ?ho) ?_; (case ho => kernel_rfl)) | ((with_reducible refine qif_t ?_ ?_); focus (simp []; done)) | ((with_reducible refine qif_f ?_ ?_); focus (simp []; done)) | (with_reducible first | refine qif_i (fun _ => ?_) (fun _ => ?_) | refine frcVs_i ?_ | refine frcRs_i ?_) | ((with_reducible refine qCall.pure (cM) ?_ ?_ ?_ ?_); rotate_left 4; exact trivial; exact plT; exact plT) | ((with_reducible refine qCall.pure (cA) ?_ ?_ ?_ ?_); rotate_left 4; exact trivial; exact plT; exact plT) | (refine qCase_i (idxL rfl rfl rfl rfl rfl rfl (by omega) hrow) ?_) | (((with_reducible refine qCall.of (cD) [(1, 1)] [(0, 0), (2, 2)] [] [(3, 5), (4, 6), (5, 7), (6, 8), (7, 9)] [(1, bxB xs), (5, .uniq), (6, .uniq), (7, .uniq), (8, .uniq), (9, .uniq)] (.tup [.agg (cnG 5 6 7 y.c), .glist 8 7 (y.out.map (sgG 9)), .val (.int .i64 0)]) ?hk ?_); (case hk => rfl); (conv => whnf); (repeat (refine And.intro ?_ ?_; (focus (first | exact sideT | (first | exact cns_bor rfl rfl rfl _ rfl | exact cns_setS rfl rfl rfl rfl rfl rfl _ _ _ | exact RowsRen.app (cns_gg rfl rfl rfl _) zR_self))); (conv => whnf))); (fail_if_success (with_reducible first | refine And.intro (eqv_i ?_) ?_ | refine And.intro (ren_i ?_) ?_)))) | (((with_reducible refine qCall.of (cO) [] [(0, 0)] [] [(1, 11), (2, 12), (3, 13), (4, 14)] [(11, cnB' (l.map (cnG 12 13 14))), (12, .uniq), (13, .uniq), (14, .uniq)] (.agg [.sl 11 0 l.length, .val (.int .i64 count)]) ?hk ?_); (case hk => rfl); (conv => whnf); (repeat (refine And.intro ?_ ?_; (focus (first | exact sideT | (first | exact cns_bor rfl rfl rfl _ rfl | exact cns_setS rfl rfl rfl rfl rfl rfl _ _ _ | exact RowsRen.app (cns_gg rfl rfl rfl _) zR_self))); (conv => whnf))); (fail_if_success (with_reducible first | refine And.intro (eqv_i ?_) ?_ | refine And.intro (ren_i ?_) ?_)))) | (((with_reducible refine qCall.of (cSt) [(1, 3), (2, 11)] [(0, 0), (3, 5), (4, 6), (5, 7), (6, 12), (7, 13), (8, 14)] [] [] [(3, hoB 11 (l.length - 1) count), (11, cnB' ((l.eraseIdx i).map (cnG 12 13 14) ++ [zR]))] (.tup []) ?hk ?_); (case hk => rfl); (conv => whnf); (repeat (refine And.intro ?_ ?_; (focus (first | exact sideT | (first | exact cns_bor rfl rfl rfl _ rfl | exact cns_setS rfl rfl rfl rfl rfl rfl _ _ _ | exact RowsRen.app (cns_gg rfl rfl rfl _) zR_self))); (conv => whnf))); (fail_if_success (with_reducible first | refine And.intro (eqv_i ?_) ?_ | refine And.intro (ren_i ?_) ?_)))) | (((with_reducible refine qCall.of (cTo) [] [(0, 0), (1, 8), (2, 9)] [] [(3, 15)] [(15, .uniq)] (.glist 15 8 ((toS y.c.ip y.out).map (snG 9))) ?hk ?_); (case hk => rfl); (conv => whnf); (repeat (refine And.intro ?_ ?_; (focus (first | exact sideT | (first | exact cns_bor rfl rfl rfl _ rfl | exact cns_setS rfl rfl rfl rfl rfl rfl _ _ _ | exact RowsRen.app (cns_gg rfl rfl rfl _) zR_self))); (conv => whnf))); (fail_if_success (with_reducible first | refine And.intro (eqv_i ?_) ?_ | refine And.intro (ren_i ?_) ?_))))) <;> (conv => whnf))))
    (refine qConv.of hB [(1, 1)] [(0, 0), (2, 2), (12, 4), (13, 5), (14, 6), (15, 7), (9, 8)] [(11, 3)] (by rfl) ?_; focus ((conv => whnf); (repeat (refine And.intro ?_ ?_; rotate_left; (conv => whnf))); exact trivial; all_goals (try exact andT)))
    all_goals first | rfl | exact cns_eraF rfl rfl rfl _ hil rfl | exact sns_gg rfl _ | (exact rowsT) | trace_state
end Go.Proofs.Ytceohcbokbalhaa

/- A host sends, closes, aborts: on data. Conditions: lengths; what may be. -/
namespace Go.Proofs.Ytceohcbokbalhaa
open Go.RowKit
set_option linter.unusedVariables false
set_option linter.unusedSimpArgs false
set_option maxRecDepth 100000
set_option maxHeartbeats 4000000
def withErr (h : Ho) (link : Int) (e : Cn → Int) : Int := bif hostB h then h.withE link e else 1
theorem with_anyB (F : FuncId) (xs : List Int) (eF : Cn → Int) (f : Cn → Stp) (h : Ho) (link : Int) (hc : ∀ c ∈ h.conns, CnLen c) (hl : h.conns.length ≤ 100000000)
    (hno : ∀ c ∈ h.conns, CnI c → eF c ≠ 0 → ACallL Try.prog F [.agg (cnR 0 c), .ptr 1 0 0] [.perm, bxB xs, .perm] (stNo (eF c)) [.perm, bxB xs, .perm])
    (hok : ∀ c ∈ h.conns, CnI c → eF c = 0 → ACallL Try.prog F [.agg (cnR 0 c), .ptr 1 0 0] [.perm, bxB xs, .perm] (.tup [.agg (cnG 3 4 5 (f c).c), .glist 6 7 ((f c).out.map (sgG 7)), .val (.int .i64 0)]) [.perm, bxB xs, .perm, .uniq, .uniq, .uniq, .uniq, .uniq] ∧ StI c 8200 (f c)) :
    (withErr h link eF ≠ 0 → ACallL Try.prog 39 [.agg (hoR h), .val (.int .i64 link), .clo F [.ptr 1 0 0]] [.perm, bxB xs, .perm] (hwNo (withErr h link eF)) [.perm, bxB xs, .perm]) ∧
    (withErr h link eF = 0 → ACallL Try.prog 39 [.agg (hoR h), .val (.int .i64 link), .clo F [.ptr 1 0 0]] [.perm, bxB xs, .perm] (hwB (h.withS link f)) (hwHB xs)) := by
  obtain ⟨l, count⟩ := h
  unfold withErr
  cases hb : hostB ⟨l, count⟩ with
  | false =>
    rw [cond_false]
    exact ⟨fun _ => with_no1B F xs ⟨l, count⟩ link hc hl hb, fun h => absurd h (by decide)⟩
  | true =>
    rw [cond_true]
    have H := (hostB_iff _).1 hb
    cases ht : thereC l link with
    | false =>
      have ha := at_none (count := count) H.up ht
      unfold Ho.withE
      rw [ha]
      exact ⟨fun _ => with_no3B F xs l count link H ht, fun h => absurd (show (3 : Int) = 0 from h) (by decide)⟩
    | true =>
      obtain ⟨c, hci, hlk, ha⟩ := at_some (count := count) H.up ht
      have hm := List.mem_of_getElem? hci
      have hI := (H.ok c hm).1.I
      have hg : l.getD (posC l link) cnZ = c := by simp [List.getD, hci]
      unfold Ho.withE Ho.withS
      rw [ha]
      dsimp only
      rw [hg]
      refine ⟨fun he => with_noEB F xs l count link (eF c) H c ht hci (by simpa using he) (hno c hm hI he), fun he => ?_⟩
      obtain ⟨k1, k2⟩ := hok c hm hI he
      exact with_lB F xs l count link H c ht hci (f c) (Nat.le_trans k2.cnt (by decide)) k2.e2 k1
theorem sendC_no (c : Cn) (xs : List Int) (hI : CnI c) (hx : xs.length ≤ 100000000) (he : c.sendE xs ≠ 0) : ACallL Try.prog 40 [.agg (cnR 0 c), .ptr 1 0 0] [.perm, bxB xs, .perm] (stNo (c.sendE xs)) [.perm, bxB xs, .perm] := by
  have cS := tcpSend_no c xs hI.cnLen hx (.inr he)
  rw [errB, (cnB_iff _).2 hI, cond_true] at cS
  have p1 := pl_bytes c.out
  have p2 := pl_parts c.parts
  dsimp only [cnR, cnL] at cS ⊢
  refine ACallL.of_ev mixed Try.func40 rfl (fun a w => Try.call40 a w) (congrArg Array.toList Try.results40) Try.ntmps40 fun B hB => ?_
  ((conv => whnf); (repeat' ((first | (with_reducible first | refine qif_n ?_ | refine qif_t ‹_› ?_ | refine qif_f ‹_› ?_) | ((with_reducible refine qif_t ?_ ?_); focus decide) | ((with_reducible refine qif_f ?_ ?_); focus decide) | (with_reducible refine And.intro (orderOk_i ?ho) ?_; (case ho => kernel_rfl)) | ((with_reducible refine qif_t ?_ ?_); focus (simp []; done)) | ((with_reducible refine qif_f ?_ ?_); focus (simp []; done)) | (with_reducible first | refine qif_i (fun _ => ?_) (fun _ => ?_) | refine frcVs_i ?_ | refine frcRs_i ?_) | (((with_reducible refine qCall.reads (cS) [(0, 0), (0, 2)] [] ?hk ?_); (case hk => rfl); (conv => whnf); (repeat (refine And.intro ?_ ?_; exact sideT; (conv => whnf))); (fail_if_success (with_reducible first | refine And.intro (eqv_i ?_) ?_ | refine And.intro (ren_i ?_) ?_))))) <;> (conv => whnf))))
  (refine qConv.of hB [(1, 1)] [(0, 0), (2, 2)] [] (by rfl) ?_; focus ((conv => whnf); (repeat (refine And.intro ?_ ?_; rotate_left; (conv => whnf))); exact trivial; all_goals (try exact andT)))
  all_goals first | rfl | (exact rowsT)
theorem sendC_l (c : Cn) (xs : List Int) (hI : CnI c) (he : c.sendE xs = 0) : ACallL Try.prog 40 [.agg (cnR 0 c), .ptr 1 0 0] [.perm, bxB xs, .perm] (.tup [.agg (cnG 3 4 5 (c.sends xs).c), .glist 6 7 ((c.sends xs).out.map (sgG 7)), .val (.int .i64 0)]) [.perm, bxB xs, .perm, .uniq, .uniq, .uniq, .uniq, .uniq] := by
  have cS := tcpSend_l c xs ((cnB_iff _).2 hI) he
  have p1 := pl_bytes c.out
  have p2 := pl_parts c.parts
  obtain ⟨y, hy⟩ : ∃ y, c.sends xs = y := ⟨_, rfl⟩
  rw [hy] at cS ⊢
  dsimp only [cnR, cnL, stA] at cS ⊢
  refine ACallL.of_ev mixed Try.func40 rfl (fun a w => Try.call40 a w) (congrArg Array.toList Try.results40) Try.ntmps40 fun B hB => ?_
  ((conv => whnf); (repeat' ((first | (with_reducible first | refine qif_n ?_ | refine qif_t ‹_› ?_ | refine qif_f ‹_› ?_) | ((with_reducible refine qif_t ?_ ?_); focus decide) | ((with_reducible refine qif_f ?_ ?_); focus decide) | (with_reducible refine And.intro (orderOk_i ?ho) ?_; (case ho => kernel_rfl)) | ((with_reducible refine qif_t ?_ ?_); focus (simp []; done)) | ((with_reducible refine qif_f ?_ ?_); focus (simp []; done)) | (with_reducible first | refine qif_i (fun _ => ?_) (fun _ => ?_) | refine frcVs_i ?_ | refine frcRs_i ?_) | (((with_reducible refine qCall.of (cS) [] [(0, 0), (0, 2)] [] [(1, 5), (2, 6), (3, 7), (4, 8), (5, 9)] [(5, .uniq), (6, .uniq), (7, .uniq), (8, .uniq), (9, .uniq)] (.tup [.agg (cnG 5 6 7 y.c), .glist 8 7 (y.out.map (sgG 9)), .val (.int .i64 0)]) ?hk ?_); (case hk => rfl); (conv => whnf); (repeat (refine And.intro ?_ ?_; exact sideT; (conv => whnf))); (fail_if_success (with_reducible first | refine And.intro (eqv_i ?_) ?_ | refine And.intro (ren_i ?_) ?_))))) <;> (conv => whnf))))
  (refine qConv.of hB [(1, 1)] [(0, 0), (2, 2), (5, 3), (6, 4), (7, 5), (8, 6), (9, 7)] [] (by rfl) ?_; focus ((conv => whnf); (repeat (refine And.intro ?_ ?_; rotate_left; (conv => whnf))); exact trivial; all_goals (try exact andT)))
  all_goals first | rfl | exact bytes_cells _ | exact parts_gg rfl _ | exact segs_gg rfl _ | (exact rowsT) | trace_state
theorem hostSend_no (h : Ho) (link : Int) (xs : List Int) (hc : ∀ c ∈ h.conns, CnLen c) (hl : h.conns.length ≤ 100000000) (hx : xs.length ≤ 100000000) (he : withErr h link (fun c => c.sendE xs) ≠ 0) :
    ACallL Try.prog 17 [.agg (hoR h), .val (.int .i64 link), bL 0 xs] [.perm] (hwNo (withErr h link (fun c => c.sendE xs))) [.perm] := by
  have cW := (with_anyB 40 xs (fun c => c.sendE xs) (fun c => c.sends xs) h link hc hl (fun c _ hI e => sendC_no c xs hI hx e) (fun c _ hI e => ⟨sendC_l c xs hI e, (send_I hI e).2⟩)).1 he
  have px := pl_cns h.conns
  have pz := pl_bytes xs
  obtain ⟨e, hee⟩ : ∃ e, withErr h link (fun c => c.sendE xs) = e := ⟨_, rfl⟩
  rw [hee] at cW ⊢
  dsimp only [hoR] at cW ⊢
  refine ACallL.of_ev mixed Try.func17 rfl (fun a w => Try.call17 a w) (congrArg Array.toList Try.results17) Try.ntmps17 fun B hB => ?_
  ((conv => whnf); (repeat' ((first | (with_reducible first | refine qif_n ?_ | refine qif_t ‹_› ?_ | refine qif_f ‹_› ?_) | ((with_reducible refine qif_t ?_ ?_); focus decide) | ((with_reducible refine qif_f ?_ ?_); focus decide) | (with_reducible refine And.intro (orderOk_i ?ho) ?_; (case ho => kernel_rfl)) | ((with_reducible refine qif_t ?_ ?_); focus (simp []; done)) | ((with_reducible refine qif_f ?_ ?_); focus (simp []; done)) | (with_reducible first | refine qif_i (fun _ => ?_) (fun _ => ?_) | refine frcVs_i ?_ | refine frcRs_i ?_) | (((with_reducible refine qCall.of (cW) [(1, 2)] [(0, 0), (2, 0)] [] [] [(2, .live ⟨1, 31, [[bL 0 xs]]⟩)] (hwNo e) ?hk ?_); (case hk => rfl); (conv => whnf); (repeat (refine And.intro ?_ ?_; exact sideT; (conv => whnf))); (fail_if_success (with_reducible first | refine And.intro (eqv_i ?_) ?_ | refine And.intro (ren_i ?_) ?_))))) <;> (conv => whnf))))
  (refine qConv.of hB [] [(0, 0)] [] (by rfl) ?_; focus ((conv => whnf); (repeat (refine And.intro ?_ ?_; rotate_left; (conv => whnf))); exact trivial; all_goals (try exact andT)))
theorem hostSend_l (h : Ho) (link : Int) (xs : List Int) (hc : ∀ c ∈ h.conns, CnLen c) (hl : h.conns.length ≤ 100000000) (hx : xs.length ≤ 100000000) (he : withErr h link (fun c => c.sendE xs) = 0) :
    ACallL Try.prog 17 [.agg (hoR h), .val (.int .i64 link), bL 0 xs] [.perm] (hwA (h.withS link (fun c => c.sends xs))) hwH := by
  have cW := (with_anyB 40 xs (fun c => c.sendE xs) (fun c => c.sends xs) h link hc hl (fun c _ hI e => sendC_no c xs hI hx e) (fun c _ hI e => ⟨sendC_l c xs hI e, (send_I hI e).2⟩)).2 he
  have px := pl_cns h.conns
  have pz := pl_bytes xs
  obtain ⟨y, hy⟩ : ∃ y, h.withS link (fun c => c.sends xs) = y := ⟨_, rfl⟩
  rw [hy] at cW ⊢
  dsimp only [hoR] at cW ⊢
  refine ACallL.of_ev mixed Try.func17 rfl (fun a w => Try.call17 a w) (congrArg Array.toList Try.results17) Try.ntmps17 fun B hB => ?_
  ((conv => whnf); (repeat' ((first | (with_reducible first | refine qif_n ?_ | refine qif_t ‹_› ?_ | refine qif_f ‹_› ?_) | ((with_reducible refine qif_t ?_ ?_); focus decide) | ((with_reducible refine qif_f ?_ ?_); focus decide) | (with_reducible refine And.intro (orderOk_i ?ho) ?_; (case ho => kernel_rfl)) | ((with_reducible refine qif_t ?_ ?_); focus (simp []; done)) | ((with_reducible refine qif_f ?_ ?_); focus (simp []; done)) | (with_reducible first | refine qif_i (fun _ => ?_) (fun _ => ?_) | refine frcVs_i ?_ | refine frcRs_i ?_) | (((with_reducible refine qCall.of (cW) [(1, 2)] [(0, 0), (2, 0)] [] [(3, 4), (4, 5), (5, 6), (6, 7), (7, 8), (8, 9)] [(2, .live ⟨1, 31, [[bL 0 xs]]⟩), (4, .uniq), (5, .uniq), (6, .uniq), (7, .uniq), (8, .uniq), (9, .uniq)] (.tup [.agg [.glist 4 16 (y.h.conns.map (cnG 5 6 7)), .val (.int .i64 y.h.count)], .glist 8 8 (y.out.map (snG 9)), .val (.int .i64 0)]) ?hk ?_); (case hk => rfl); (conv => whnf); (repeat (refine And.intro ?_ ?_; exact sideT; (conv => whnf))); (fail_if_success (with_reducible first | refine And.intro (eqv_i ?_) ?_ | refine And.intro (ren_i ?_) ?_))))) <;> (conv => whnf))))
  (refine qConv.of hB [] [(0, 0), (4, 1), (5, 2), (6, 3), (7, 4), (8, 5), (9, 6)] [] (by rfl) ?_; focus ((conv => whnf); (repeat (refine And.intro ?_ ?_; rotate_left; (conv => whnf))); exact trivial; all_goals (try exact andT)))
  all_goals first | rfl | exact cns_gg rfl rfl rfl _ | exact sns_gg rfl _ | (exact rowsT) | trace_state
end Go.Proofs.Ytceohcbokbalhaa

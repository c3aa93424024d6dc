/- Contracts and plain laws, one behind the other: AhHoQ, AhTcpT, AhTcpU, AhTcpX, AhTcpW, AhTcpY. Conditions are said at each. -/
import Derived.Test.YtceohcbokbalhaaGreatPkAQ
import Derived.Test.YtceohcbokbalhaaGreatPkAD
import Derived.Test.YtceohcbokbalhaaGreatPkAM
import Derived.Test.YtceohcbokbalhaaGreatPkAI
/- The page's host: a connection is found, a step is put in its place: on data. Conditions: lengths. -/
namespace Go.Proofs.YtceohcbokbalhaaGreat
open Go.RowKit
set_option linter.unusedVariables false
set_option linter.unusedSimpArgs false
set_option maxRecDepth 100000
set_option maxHeartbeats 4000000
def idxJ : Option Nat → Int
  | some i => i
  | none => -1
theorem findJ_at {p : Cn → Bool} {l : List Cn} {k : Nat} {c : Cn} (h : ∀ j d, j < k → l[j]? = some d → p d = false) (hk : l[k]? = some c) (hc : p c = true) : l.findIdx? p = some k := by
  obtain ⟨hlt, e⟩ := List.getElem?_eq_some_iff.1 hk
  rw [List.findIdx?_eq_some_iff_getElem]
  refine ⟨hlt, by rw [e]; exact hc, fun j hj => ?_⟩
  have := h j l[j] hj (List.getElem?_eq_getElem (by omega))
  rw [this]
  decide
theorem findJ_none {p : Cn → Bool} {l : List Cn} (h : ∀ j d, j < l.length → l[j]? = some d → p d = false) : l.findIdx? p = none := by
  rw [List.findIdx?_eq_none_iff]
  intro d hd
  obtain ⟨j, hj⟩ := List.getElem?_of_mem hd
  exact h j d (List.getElem?_eq_some_iff.1 hj).1 hj
theorem rFind_l (h : Ho) (link : Int) (hl : h.conns.length ≤ 100000) : ACallL Tryz.prog 50 [.agg (hoR h), .val (.int .i64 link)] [.perm] (.val (.int .i64 (idxJ (h.at_ link)))) [.perm] := by
  obtain ⟨l, count⟩ := h
  have px := pl_cns l
  have ll : (l.map (cnR 0)).length = l.length := by simp
  unfold Ho.at_
  dsimp only [hoR] at hl ⊢
  refine ACallL.of_ev mixed Tryz.func50 rfl (fun a w => Tryz.call50 a w) (congrArg Array.toList Tryz.results50) Tryz.ntmps50 fun B hB => ?_
  ((conv => whnf); (repeat' ((first | (with_reducible first | refine qif_n ?_ | refine qif_t ‹_› ?_ | refine qif_f ‹_› ?_) | ((with_reducible refine qif_t ?_ ?_); focus decide) | ((with_reducible refine qif_f ?_ ?_); focus decide) | (with_reducible refine And.intro (orderOk_i ?ho) ?_; (case ho => kernel_rfl)) | (with_reducible first | refine qif_i (fun _ => ?_) (fun _ => ?_) | refine frcVs_i ?_ | refine frcRs_i ?_)) <;> (conv => whnf))))
  refine qAW.loopE mixed (X := Nat) (fun k => slotsOf 22 [(1, .val (.int .i64 link)), (2, .ptr 1 0 0), (5, .val (.int .i64 k))]) (fun k => [.perm, .live ⟨2, 24, [[.list 0 16 (l.map (cnR 0)), .val (.int .i64 count)]]⟩])
    (fun k => k ≤ l.length ∧ ∀ j d, j < k → l[j]? = some d → (d.link == link) = false) (fun k => l.length - k) 0 ⟨Nat.zero_le _, fun j d h => by omega⟩ ?_ ?_
  · (refine qConv.of hB [(1, 1)] [(0, 0)] [] (by rfl) ?_; focus ((conv => whnf); (repeat (refine And.intro ?_ ?_; rotate_left; (conv => whnf))); exact trivial; all_goals (try exact andT)))
    all_goals first | rfl | (exact rowsT)
  · rintro E k ⟨hk, hno⟩ hE
    by_cases hlt : k < l.length
    · obtain ⟨c, hc⟩ : ∃ p, l[k]? = some p := ⟨_, List.getElem?_eq_getElem hlt⟩
      have hrow : (l.map (cnR 0))[(k : Int).toNat]? = some (cnR 0 c) := by simp [hc]
      have w := IntWalk.i64_in (k + 1) (by omega)
      cases hb : (c.link == link) with
      | true =>
        have hf := findJ_at hno hc hb
        rw [hf] at hE
        subst hE
        ((conv => whnf); (repeat' ((first | (with_reducible first | refine qif_n ?_ | refine qif_t ‹_› ?_ | refine qif_f ‹_› ?_) | ((with_reducible refine qif_t ?_ ?_); focus decide) | ((with_reducible refine qif_f ?_ ?_); focus decide) | (with_reducible refine And.intro (orderOk_i ?ho) ?_; (case ho => kernel_rfl)) | ((with_reducible refine qif_t ?_ ?_); focus (simp [hlt]; done)) | ((with_reducible refine qif_f ?_ ?_); focus (simp [hlt]; done)) | (with_reducible first | refine qif_i (fun _ => ?_) (fun _ => ?_) | refine frcVs_i ?_ | refine frcRs_i ?_) | (refine qCase_i (idxL rfl rfl rfl rfl rfl rfl (by omega) hrow) ?_)) <;> (conv => whnf))))
        (refine qConv.of hB [] [(0, 0)] [] (by rfl) ?_; focus ((conv => whnf); (repeat (refine And.intro ?_ ?_; rotate_left; (conv => whnf))); exact trivial; all_goals (try exact andT)))
        all_goals rfl
      | false =>
        subst hE
        ((conv => whnf); (repeat' ((first | (with_reducible first | refine qif_n ?_ | refine qif_t ‹_› ?_ | refine qif_f ‹_› ?_) | ((with_reducible refine qif_t ?_ ?_); focus decide) | ((with_reducible refine qif_f ?_ ?_); focus decide) | (with_reducible refine And.intro (orderOk_i ?ho) ?_; (case ho => kernel_rfl)) | ((with_reducible refine qif_t ?_ ?_); focus (simp [hlt]; done)) | ((with_reducible refine qif_f ?_ ?_); focus (simp [hlt]; done)) | (with_reducible first | refine qif_i (fun _ => ?_) (fun _ => ?_) | refine frcVs_i ?_ | refine frcRs_i ?_) | (refine qCase_i (idxL rfl rfl rfl rfl rfl rfl (by omega) hrow) ?_)) <;> (conv => whnf))))
        refine ⟨k + 1, ⟨by omega, fun j d hj hd => ?_⟩, by omega, ?_⟩
        · by_cases e : j = k
          · subst e; rw [hc] at hd; cases hd; exact hb
          · exact hno j d (by omega) hd
        · (refine qConv.of hB [(1, 1)] [(0, 0)] [] (by rfl) ?_; focus ((conv => whnf); (repeat (refine And.intro ?_ ?_; rotate_left; (conv => whnf))); exact trivial; all_goals (try exact andT)))
          all_goals first | rfl | (simp [w]; done) | (exact rowsT)
    · have e : k = l.length := by omega
      subst e
      have hf := findJ_none hno
      rw [hf] at hE
      subst hE
      ((conv => whnf); (repeat' ((first | (with_reducible first | refine qif_n ?_ | refine qif_t ‹_› ?_ | refine qif_f ‹_› ?_) | ((with_reducible refine qif_t ?_ ?_); focus decide) | ((with_reducible refine qif_f ?_ ?_); focus decide) | (with_reducible refine And.intro (orderOk_i ?ho) ?_; (case ho => kernel_rfl)) | ((with_reducible refine qif_t ?_ ?_); focus (simp [hlt]; done)) | ((with_reducible refine qif_f ?_ ?_); focus (simp [hlt]; done)) | (with_reducible first | refine qif_i (fun _ => ?_) (fun _ => ?_) | refine frcVs_i ?_ | refine frcRs_i ?_)) <;> (conv => whnf))))
      (refine qConv.of hB [] [(0, 0)] [] (by rfl) ?_; focus ((conv => whnf); (repeat (refine And.intro ?_ ?_; rotate_left; (conv => whnf))); exact trivial; all_goals (try exact andT)))
      all_goals rfl
abbrev hsRow (c o p d s e h t : Nat) (y : Hs) : List AV := [.glist c 16 (y.h.conns.map (cnP o p d)), .val (.int .i64 y.h.count), .glist s 8 (y.out.map (snR e)), .glist h 3 (y.heard.map (hdR t))]
abbrev hsO (row : List AV) : Own := .live ⟨4, 58, [row]⟩
def putX (x : Hs) (i : Nat) (y : Stp) : Hs := ⟨x.h.put i y.c, x.out ++ toS y.c.ip y.out, x.heard⟩
theorem put_eq (h : Ho) (i : Nat) (c : Cn) (hi : i < h.conns.length) : (h.put i c).conns = h.conns.take i ++ ((bif c.st == 0 then [] else [c]) ++ h.conns.drop (i + 1)) := by
  unfold Ho.put
  cases (c.st == 0)
  · simp only [cond_false, List.set_eq_take_append_cons_drop, if_pos hi]; rfl
  · simp only [cond_true, List.eraseIdx_eq_take_drop_succ]; rfl
section
variable {L I F : Prs} {h : Hp}
theorem Ren.glR {b b' sz : Nat} {rows rows' : List (List AV)} (hb : I.has b b' = true) (hr : RowsRen (qOf L I F) h rows rows') : Ren (qOf L I F) h (.glist b sz rows) (.glist b' sz rows') :=
  .glist _ _ _ _ _ ((Prs.has_iff I _ _).1 hb) hr.1 hr.2.1 hr.2.2
theorem hds_rr {r r' : Nat} (h0 : I.has r r' = true) (l : List Hd) : RowsRen (qOf L I F) h (l.map (hdR r)) (l.map (hdR r')) :=
  RowsRen.mapF l _ _ fun x _ => .cons (.val _) (.cons (Ren.ll h0 _) (.cons (.val _) .nil))
theorem hsRow_r {c s hh c' s' h' : Nat} {count : Int} {C C' S S' D D' : List (List AV)} (h0 : I.has c c' = true) (h1 : I.has s s' = true) (h2 : I.has hh h' = true) (r1 : RowsRen (qOf L I F) h C C') (r2 : RowsRen (qOf L I F) h S S') (r3 : RowsRen (qOf L I F) h D D') :
    RowsRen (qOf L I F) h [[.glist c 16 C, .val (.int .i64 count), .glist s 8 S, .glist hh 3 D]] [[.glist c' 16 C', .val (.int .i64 count), .glist s' 8 S', .glist h' 3 D']] :=
  RowsRen.one (.cons (Ren.glR h0 r1) (.cons (.val _) (.cons (Ren.glR h1 r2) (.cons (Ren.glR h2 r3) .nil))))
end
abbrev putL0 (x : Hs) (y : Stp) : List Own := [.perm, hsO (hsRow 2 3 4 5 6 7 8 9 x), .uniq, .uniq, .uniq, .uniq, .uniq, .uniq, .perm, .perm, rsO (rsN 11 12 13 14 15 16 y), .uniq, .uniq, .uniq, .perm, .perm, .uniq]
abbrev putL1 (x : Hs) : List Own := [.perm, hsO (hsRow 17 18 19 20 21 22 8 9 x), .dead, .dead, .dead, .dead, .dead, .dead, .perm, .perm, .dead, .dead, .dead, .dead, .perm, .perm, .dead, .uniq, .uniq, .uniq, .uniq, .uniq, .uniq]
theorem hput_l (x : Hs) (i : Nat) (y : Stp) (hi : i < x.h.conns.length) (hl : x.h.conns.length ≤ 1000) (hc : ∀ c ∈ x.h.conns, CnLen c) (ho : x.out.length + y.out.length ≤ 1000000) :
    ACallL Tryz.prog 52 [.ptr 1 0 0, .val (.int .i64 i), .ptr 10 0 0] (putL0 x y) (.tup []) (putL1 (putX x i y)) := by
  obtain ⟨⟨l, count⟩, S, D⟩ := x
  obtain ⟨c, yo, told⟩ := y
  unfold putX
  dsimp only [putL0, putL1, hsRow, rsN] at hi hl hc ho ⊢
  have hq := put_eq ⟨l, count⟩ i c hi
  have hcount : (Ho.put ⟨l, count⟩ i c).count = count := rfl
  rw [hq, hcount]
  dsimp only
  have cA := copyConns_l (l.take i) (by simp; omega) (fun d hd => hc d (List.mem_of_mem_take hd))
  have cB := copyConns_l (l.drop (i + 1)) (by simp; omega) (fun d hd => hc d (List.mem_of_mem_drop hd))
  have lP : (((l.map (cnP 3 4 5)).length : Nat) : Int) = l.length := by simp
  have wi : IntKind.i64.wrap ((i : Int) + 1) = i + 1 := IntWalk.i64_in _ (by omega)
  have hcb1 : 0 ≤ (none : Option Int).getD 0 ∧ (none : Option Int).getD 0 ≤ (some (i : Int)).getD ((l.map (cnP 3 4 5)).length : Int) ∧ (some (i : Int)).getD ((l.map (cnP 3 4 5)).length : Int) ≤ (none : Option Int).getD ((l.map (cnP 3 4 5)).length : Int) ∧ (none : Option Int).getD ((l.map (cnP 3 4 5)).length : Int) ≤ ((l.map (cnP 3 4 5)).length : Int) ∧ ((none : Option Int) = none ∨ (some (i : Int)) ≠ none) := by
    rw [Option.getD_some, Option.getD_none, Option.getD_none, lP]; exact ⟨by omega, by omega, by omega, by omega, .inl rfl⟩
  have hsl1 : ((l.map (cnP 3 4 5)).drop ((none : Option Int).getD 0).toNat).take ((some (i : Int)).getD ((l.map (cnP 3 4 5)).length : Int) - (none : Option Int).getD 0).toNat = (l.take i).map (cnP 3 4 5) := by
    rw [Option.getD_some, Option.getD_none, List.map_take]; simp
  have hcb2 : 0 ≤ (some (IntKind.i64.wrap ((i : Int) + 1))).getD 0 ∧ (some (IntKind.i64.wrap ((i : Int) + 1))).getD 0 ≤ (none : Option Int).getD ((l.map (cnP 3 4 5)).length : Int) ∧ (none : Option Int).getD ((l.map (cnP 3 4 5)).length : Int) ≤ (none : Option Int).getD ((l.map (cnP 3 4 5)).length : Int) ∧ (none : Option Int).getD ((l.map (cnP 3 4 5)).length : Int) ≤ ((l.map (cnP 3 4 5)).length : Int) ∧ ((none : Option Int) = none ∨ (none : Option Int) ≠ none) := by
    rw [Option.getD_some, Option.getD_none, wi, lP]; exact ⟨by omega, by omega, by omega, by omega, .inl rfl⟩
  have hsl2 : ((l.map (cnP 3 4 5)).drop ((some (IntKind.i64.wrap ((i : Int) + 1))).getD 0).toNat).take ((none : Option Int).getD ((l.map (cnP 3 4 5)).length : Int) - (some (IntKind.i64.wrap ((i : Int) + 1))).getD 0).toNat = (l.drop (i + 1)).map (cnP 3 4 5) := by
    rw [Option.getD_some, Option.getD_none, wi, lP, List.map_drop, show ((i : Int) + 1).toNat = i + 1 by omega, List.take_of_length_le (by simp; omega)]
  refine ACallL.of_ev mixed Tryz.func52 rfl (fun a w => Tryz.call52 a w) (congrArg Array.toList Tryz.results52) Tryz.ntmps52 fun B hB => ?_
  ((conv => whnf); (repeat' ((first | (with_reducible first | refine qif_n ?_ | refine qif_t ‹_› ?_ | refine qif_f ‹_› ?_) | ((with_reducible refine qif_t ?_ ?_); focus decide) | ((with_reducible refine qif_f ?_ ?_); focus decide) | (with_reducible refine And.intro (orderOk_i ?ho) ?_; (case ho => kernel_rfl)) | ((with_reducible refine qif_t ?_ ?_); focus (simp []; done)) | ((with_reducible refine qif_f ?_ ?_); focus (simp []; done)) | (with_reducible first | refine qif_i (fun _ => ?_) (fun _ => ?_) | refine frcVs_i ?_ | refine frcRs_i ?_)) <;> (conv => whnf))))
  refine qAW.loopE mixed (X := Nat) (fun k => slotsOf 75 [(0, .ptr 1 0 0), (1, .val (.int .i64 i)), (2, .ptr 10 0 0), (6, .val (.int .i64 k))])
    (fun k => [.perm, hsO [.glist 2 16 (l.map (cnP 3 4 5)), .val (.int .i64 count), .glist 17 8 (S.map (snR 7) ++ (toS c.ip (yo.take k)).map (snR 16)), .glist 8 3 (D.map (hdR 9))], .uniq, .uniq, .uniq, .uniq, .dead, .uniq, .perm, .perm, rsO (rsN 11 12 13 14 15 16 ⟨c, yo, told⟩), .uniq, .uniq, .uniq, .perm, .perm, .uniq, .uniq])
    (fun k => k ≤ yo.length) (fun k => yo.length - k) 0 (Nat.zero_le _) ?_ ?_
  · (refine qConv.of hB [(1, 1), (10, 10)] [(0, 0), (2, 2), (3, 3), (4, 4), (5, 5), (6, 17), (7, 7), (8, 8), (9, 9), (11, 11), (12, 12), (13, 13), (14, 14), (15, 15), (16, 16)] [] (by rfl) ?_; focus ((conv => whnf); (repeat (refine And.intro ?_ ?_; rotate_left; (conv => whnf))); exact trivial; all_goals (try exact andT)))
    all_goals first | rfl | exact hsRow_r rfl rfl rfl (cns_pp rfl rfl rfl _) (RowsRen.castR (b := S.map (snR 7)) (by simp [toS]) (sns_rr rfl _)) (hds_rr rfl _) | (exact rowsT) | trace_state
  · rintro E k hk hE
    have w := IntWalk.i64_in ((k : Int) + 1) (by omega)
    by_cases hlt : k < yo.length
    · obtain ⟨m, hm⟩ : ∃ p, yo[k]? = some p := ⟨_, List.getElem?_eq_getElem hlt⟩
      have hrow : (yo.map (sgR 16))[(k : Int).toNat]? = some (sgR 16 m) := by simp [hm]
      have ly : ((yo.map (sgR 16)).length : Int) = yo.length := by simp
      have hsz : (S.map (snR 7) ++ (toS c.ip (yo.take k)).map (snR 16)).length + 1 ≤ 1000001 := by unfold toS; simp; omega
      have hap : S.map (snR 7) ++ (toS c.ip (yo.take k)).map (snR 16) ++ [snR 16 (c.ip, m)] = S.map (snR 7) ++ (toS c.ip (yo.take (k + 1))).map (snR 16) := by
        rw [take_snoc hm]; unfold toS; simp
      subst hE
      ((conv => whnf); (repeat' ((first | (with_reducible first | refine qif_n ?_ | refine qif_t ‹_› ?_ | refine qif_f ‹_› ?_) | ((with_reducible refine qif_t ?_ ?_); focus decide) | ((with_reducible refine qif_f ?_ ?_); focus decide) | (with_reducible refine And.intro (orderOk_i ?ho) ?_; (case ho => kernel_rfl)) | ((with_reducible refine qif_t ?_ ?_); focus (simp [hlt, ly]; done)) | ((with_reducible refine qif_f ?_ ?_); focus (simp [hlt, ly]; done)) | (with_reducible first | refine qif_i (fun _ => ?_) (fun _ => ?_) | refine frcVs_i ?_ | refine frcRs_i ?_) | (refine qCase_i (idxG rfl rfl rfl rfl rfl rfl (by omega) hrow) ?_) | (refine qCase_i (apG' (nb := 80) rfl rfl rfl rfl rfl rfl rfl rfl rfl rfl ⟨Nat.zero_lt_succ _, Nat.zero_lt_succ _, rfl⟩ rfl (Nat.le_trans (Nat.mul_le_mul_right _ hsz) (by decide)) hap) ?_)) <;> (conv => whnf))))
      refine ⟨k + 1, by omega, by omega, ?_⟩
      (refine qConv.of hB [(1, 1), (10, 10)] [(0, 0), (2, 2), (3, 3), (4, 4), (5, 5), (19, 17), (7, 7), (8, 8), (9, 9), (11, 11), (12, 12), (13, 13), (14, 14), (15, 15), (16, 16)] [] (by rfl) ?_; focus ((conv => whnf); (repeat (refine And.intro ?_ ?_; rotate_left; (conv => whnf))); exact trivial; all_goals (try exact andT)))
      all_goals first | rfl | (simp [w]; done) | exact hsRow_r rfl rfl rfl (cns_pp rfl rfl rfl _) (RowsRen.app (sns_rr rfl _) (sns_rr rfl _)) (hds_rr rfl _) | (exact rowsT) | trace_state
    · have ly : ((yo.map (sgR 16)).length : Int) = yo.length := by simp
      have e : yo.take k = yo := List.take_of_length_le (by omega)
      rw [e]
      cases hs0 : (c.st == 0) with
      | false =>
        have hs1 : (c.st != 0) = true := by rw [bne, hs0]; rfl
        rw [hs0, cond_false] at hE
        subst hE
        have hszA : ((l.take i).map (cnG 19 20 21)).length + 1 ≤ 2000 := by simp; omega
        have hszB : ((l.take i).map (cnG 19 20 21) ++ [cnP 11 12 13 c]).length + ((l.drop (i + 1)).map (cnG 25 26 27)).length ≤ 3000 := by simp; omega
        ((conv => whnf); (repeat' ((first | (with_reducible first | refine qif_n ?_ | refine qif_t ‹_› ?_ | refine qif_f ‹_› ?_) | ((with_reducible refine qif_t ?_ ?_); focus decide) | ((with_reducible refine qif_f ?_ ?_); focus decide) | (with_reducible refine And.intro (orderOk_i ?ho) ?_; (case ho => kernel_rfl)) | ((with_reducible refine qif_t ?_ ?_); focus (simp [hlt, ly]; done)) | ((with_reducible refine qif_f ?_ ?_); focus (simp [hlt, ly]; done)) | (with_reducible first | refine qif_i (fun _ => ?_) (fun _ => ?_) | refine frcVs_i ?_ | refine frcRs_i ?_) | (refine qCase_i (slG' rfl rfl rfl rfl rfl rfl rfl rfl hcb1 hsl1) ?_) | (refine qCase_i (slG' rfl rfl rfl rfl rfl rfl rfl rfl hcb2 hsl2) ?_) | (((with_reducible refine qCall.of (cA) [] [(0, 0), (0, 2), (0, 3), (0, 4), (0, 5)] [] [(1, 18), (2, 19), (3, 20), (4, 21)] [(18, .uniq), (19, .uniq), (20, .uniq), (21, .uniq)] (.glist 18 16 ((l.take i).map (cnG 19 20 21))) ?hk ?_); (case hk => rfl); (conv => whnf); (repeat (refine And.intro ?_ ?_; exact sideT; (conv => whnf))); (fail_if_success (with_reducible first | refine And.intro (eqv_i ?_) ?_ | refine And.intro (ren_i ?_) ?_)))) | (refine qCase_i (apG (nb := 160) rfl rfl rfl rfl rfl rfl rfl rfl rfl rfl ⟨Nat.zero_lt_succ _, Nat.zero_lt_succ _, rfl⟩ rfl (Nat.le_trans (Nat.mul_le_mul_right _ hszA) (by decide))) ?_) | (((with_reducible refine qCall.of (cB) [] [(0, 0), (0, 2), (0, 3), (0, 4), (0, 5)] [] [(1, 24), (2, 25), (3, 26), (4, 27)] [(24, .uniq), (25, .uniq), (26, .uniq), (27, .uniq)] (.glist 24 16 ((l.drop (i + 1)).map (cnG 25 26 27))) ?hk ?_); (case hk => rfl); (conv => whnf); (repeat (refine And.intro ?_ ?_; exact sideT; (conv => whnf))); (fail_if_success (with_reducible first | refine And.intro (eqv_i ?_) ?_ | refine And.intro (ren_i ?_) ?_)))) | (refine qCase_i (apG (nb := 160) rfl rfl rfl rfl rfl rfl rfl rfl rfl rfl ⟨Nat.zero_lt_succ _, Nat.zero_lt_succ _, rfl⟩ (ones_cnG 25 26 27 _) (Nat.le_trans (Nat.mul_le_mul_right _ hszB) (by decide))) ?_)) <;> (conv => whnf))))
        (refine qConv.of hB [(1, 1)] [(0, 0), (8, 8), (9, 9), (14, 14), (15, 15), (28, 17), (19, 18), (11, 18), (25, 18), (20, 19), (12, 19), (26, 19), (21, 20), (13, 20), (27, 20), (17, 21), (7, 22), (16, 22)] [] (by rfl) ?_; focus ((conv => whnf); (repeat (refine And.intro ?_ ?_; rotate_left; (conv => whnf))); exact trivial; all_goals (try exact andT)))
        all_goals first | rfl | exact hsRow_r rfl rfl rfl (RowsRen.castR (b := ((l.take i).map (cnP 18 19 20) ++ [cnP 18 19 20 c]) ++ (l.drop (i + 1)).map (cnP 18 19 20)) (by simp) (RowsRen.app (RowsRen.app (cns_gp rfl rfl rfl _) (RowsRen.one (cn_pp rfl rfl rfl _))) (cns_gp rfl rfl rfl _))) (RowsRen.castR (b := S.map (snR 22) ++ (toS c.ip yo).map (snR 22)) (by simp) (RowsRen.app (sns_rr rfl _) (sns_rr rfl _))) (hds_rr rfl _) | trace_state
      | true =>
        have hs1 : (c.st != 0) = false := by rw [bne, hs0]; rfl
        rw [hs0, cond_true] at hE
        subst hE
        have hszC : ((l.take i).map (cnG 19 20 21)).length + ((l.drop (i + 1)).map (cnG 23 24 25)).length ≤ 3000 := by simp; omega
        ((conv => whnf); (repeat' ((first | (with_reducible first | refine qif_n ?_ | refine qif_t ‹_› ?_ | refine qif_f ‹_› ?_) | ((with_reducible refine qif_t ?_ ?_); focus decide) | ((with_reducible refine qif_f ?_ ?_); focus decide) | (with_reducible refine And.intro (orderOk_i ?ho) ?_; (case ho => kernel_rfl)) | ((with_reducible refine qif_t ?_ ?_); focus (simp [hlt, ly]; done)) | ((with_reducible refine qif_f ?_ ?_); focus (simp [hlt, ly]; done)) | (with_reducible first | refine qif_i (fun _ => ?_) (fun _ => ?_) | refine frcVs_i ?_ | refine frcRs_i ?_) | (refine qCase_i (slG' rfl rfl rfl rfl rfl rfl rfl rfl hcb1 hsl1) ?_) | (refine qCase_i (slG' rfl rfl rfl rfl rfl rfl rfl rfl hcb2 hsl2) ?_) | (((with_reducible refine qCall.of (cA) [] [(0, 0), (0, 2), (0, 3), (0, 4), (0, 5)] [] [(1, 18), (2, 19), (3, 20), (4, 21)] [(18, .uniq), (19, .uniq), (20, .uniq), (21, .uniq)] (.glist 18 16 ((l.take i).map (cnG 19 20 21))) ?hk ?_); (case hk => rfl); (conv => whnf); (repeat (refine And.intro ?_ ?_; exact sideT; (conv => whnf))); (fail_if_success (with_reducible first | refine And.intro (eqv_i ?_) ?_ | refine And.intro (ren_i ?_) ?_)))) | (((with_reducible refine qCall.of (cB) [] [(0, 0), (0, 2), (0, 3), (0, 4), (0, 5)] [] [(1, 22), (2, 23), (3, 24), (4, 25)] [(22, .uniq), (23, .uniq), (24, .uniq), (25, .uniq)] (.glist 22 16 ((l.drop (i + 1)).map (cnG 23 24 25))) ?hk ?_); (case hk => rfl); (conv => whnf); (repeat (refine And.intro ?_ ?_; exact sideT; (conv => whnf))); (fail_if_success (with_reducible first | refine And.intro (eqv_i ?_) ?_ | refine And.intro (ren_i ?_) ?_)))) | (refine qCase_i (apG (nb := 160) rfl rfl rfl rfl rfl rfl rfl rfl rfl rfl ⟨Nat.zero_lt_succ _, Nat.zero_lt_succ _, rfl⟩ (ones_cnG 23 24 25 _) (Nat.le_trans (Nat.mul_le_mul_right _ hszC) (by decide))) ?_)) <;> (conv => whnf))))
        (refine qConv.of hB [(1, 1)] [(0, 0), (8, 8), (9, 9), (14, 14), (15, 15), (26, 17), (19, 18), (23, 18), (20, 19), (24, 19), (21, 20), (25, 20), (17, 21), (7, 22), (16, 22)] [] (by rfl) ?_; focus ((conv => whnf); (repeat (refine And.intro ?_ ?_; rotate_left; (conv => whnf))); exact trivial; all_goals (try exact andT)))
        all_goals first | rfl | exact hsRow_r rfl rfl rfl (RowsRen.castR (b := (l.take i).map (cnP 18 19 20) ++ (l.drop (i + 1)).map (cnP 18 19 20)) (by simp) (RowsRen.app (cns_gp rfl rfl rfl _) (cns_gp rfl rfl rfl _))) (RowsRen.castR (b := S.map (snR 22) ++ (toS c.ip yo).map (snR 22)) (by simp) (RowsRen.app (sns_rr rfl _) (sns_rr rfl _))) (hds_rr rfl _) | trace_state
end Go.Proofs.YtceohcbokbalhaaGreat

/- The page's connection takes an acknowledgement: on data. Conditions: bounds. -/
namespace Go.Proofs.YtceohcbokbalhaaGreat
open Go.RowKit
set_option linter.unusedVariables false
set_option linter.unusedSimpArgs false
set_option maxRecDepth 100000
set_option maxHeartbeats 1000000
end Go.Proofs.YtceohcbokbalhaaGreat

/- The page's connection takes a segment: on data. Conditions: it may be one, the segment may be one. -/
namespace Go.Proofs.YtceohcbokbalhaaGreat
open Go.RowKit
set_option linter.unusedVariables false
set_option linter.unusedSimpArgs false
set_option maxRecDepth 100000
set_option maxHeartbeats 4000000
end Go.Proofs.YtceohcbokbalhaaGreat

/- The page's connection sends again, in a tick: on data. Conditions: lengths. -/
namespace Go.Proofs.YtceohcbokbalhaaGreat
open Go.RowKit
set_option linter.unusedVariables false
set_option linter.unusedSimpArgs false
set_option maxRecDepth 100000
set_option maxHeartbeats 4000000
end Go.Proofs.YtceohcbokbalhaaGreat

/- The page's connection is opened, goes on by a tick: on data. Conditions: lengths. -/
namespace Go.Proofs.YtceohcbokbalhaaGreat
open Go.RowKit
set_option linter.unusedVariables false
set_option linter.unusedSimpArgs false
set_option maxRecDepth 100000
set_option maxHeartbeats 4000000
end Go.Proofs.YtceohcbokbalhaaGreat

/- The page's connection that is over takes a segment: on data. Conditions: lengths. -/
namespace Go.Proofs.YtceohcbokbalhaaGreat
open Go.RowKit
set_option linter.unusedVariables false
set_option linter.unusedSimpArgs false
set_option maxRecDepth 100000
set_option maxHeartbeats 4000000
end Go.Proofs.YtceohcbokbalhaaGreat

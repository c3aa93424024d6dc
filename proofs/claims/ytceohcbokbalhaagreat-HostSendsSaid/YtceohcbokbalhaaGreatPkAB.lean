/- Contracts and plain laws, one behind the other: AhParts, AhReasm, AhFill, AhRuns. Conditions are said at each. -/
import Derived.Test.YtceohcbokbalhaaGreatPkAA
/- Pieces of a stream on data: copied, compared. No condition but lengths. -/
namespace Go.Proofs.YtceohcbokbalhaaGreat
open Go.RowKit
set_option linter.unusedVariables false
set_option linter.unusedSimpArgs false
set_option maxRecDepth 100000
set_option maxHeartbeats 4000000
def Cells (q : Rn) (h : Hp) (l l' : List AV) : Prop := l.length = l'.length ∧ ∀ (j : Nat) (c c' : AV), l[j]? = some c → l'[j]? = some c' → Ren q h c c'
theorem Cells.nil {q : Rn} {h : Hp} : Cells q h [] [] := ⟨rfl, by simp⟩
theorem Cells.cons {q : Rn} {h : Hp} {a a' : AV} {l l' : List AV} (h1 : Ren q h a a') (h2 : Cells q h l l') : Cells q h (a :: l) (a' :: l') := by
  refine ⟨by simp [h2.1], fun j c c' x y => ?_⟩
  rcases j with _ | j
  · simp at x y; subst x y; exact h1
  · exact h2.2 j c c' (by simpa using x) (by simpa using y)
theorem RowsRen.mapF {α : Type} {q : Rn} {h : Hp} (l : List α) (f g : α → List AV) (H : ∀ x ∈ l, Cells q h (f x) (g x)) : RowsRen q h (l.map f) (l.map g) := by
  refine ⟨by simp, fun i row row' a b => ?_, fun i j row row' c c' a b d e => ?_⟩
  · simp only [List.getElem?_map, Option.map_eq_some_iff] at a b
    obtain ⟨x, hx, rfl⟩ := a
    obtain ⟨y, hy, rfl⟩ := b
    rw [hx] at hy; cases hy
    exact (H x (List.mem_of_getElem? hx)).1
  · simp only [List.getElem?_map, Option.map_eq_some_iff] at a b
    obtain ⟨x, hx, rfl⟩ := a
    obtain ⟨y, hy, rfl⟩ := b
    rw [hx] at hy; cases hy
    exact (H x (List.mem_of_getElem? hx)).2 j c c' d e
theorem RowsRen.app {q : Rn} {h : Hp} {a a' b b' : List (List AV)} (h1 : RowsRen q h a a') (h2 : RowsRen q h b b') : RowsRen q h (a ++ b) (a' ++ b') := by
  have hl := h1.1
  refine ⟨by simp [h1.1, h2.1], fun i row row' x y => ?_, fun i j row row' c c' x y d e => ?_⟩
  · rcases Nat.lt_or_ge i a.length with hi | hi
    · rw [List.getElem?_append_left hi] at x; rw [List.getElem?_append_left (by omega)] at y
      exact h1.2.1 i row row' x y
    · rw [List.getElem?_append_right hi] at x; rw [List.getElem?_append_right (by omega), ← hl] at y
      exact h2.2.1 _ row row' x y
  · rcases Nat.lt_or_ge i a.length with hi | hi
    · rw [List.getElem?_append_left hi] at x; rw [List.getElem?_append_left (by omega)] at y
      exact h1.2.2 i j row row' c c' x y d e
    · rw [List.getElem?_append_right hi] at x; rw [List.getElem?_append_right (by omega), ← hl] at y
      exact h2.2.2 _ j row row' c c' x y d e
theorem RowsRen.one {q : Rn} {h : Hp} {a b : List AV} (H : Cells q h a b) : RowsRen q h [a] [b] := by
  simpa using RowsRen.mapF (q := q) (h := h) [()] (fun _ => a) (fun _ => b) fun _ _ => H
theorem Ren.sl1 {L I F : Prs} {h : Hp} {b b' i n : Nat} (h0 : L.has b b' = true) : Ren (qOf L I F) h (.sl b i n) (.sl b' i n) := .sl _ _ _ _ ((Prs.has_iff L b b').1 h0)
theorem Ren.ptr1 {L I F : Prs} {h : Hp} {b b' i n : Nat} (h0 : L.has b b' = true) : Ren (qOf L I F) h (.ptr b i n) (.ptr b' i n) := .ptr _ _ _ _ ((Prs.has_iff L b b').1 h0)
theorem RowsRen.cast {q : Rn} {h : Hp} {a b c : List (List AV)} (e : a = b) (H : RowsRen q h b c) : RowsRen q h a c := e ▸ H
theorem RowsRen.castR {q : Rn} {h : Hp} {a b c : List (List AV)} (e : b = c) (H : RowsRen q h a b) : RowsRen q h a c := e ▸ H
theorem bytes_cells {q : Rn} {h : Hp} (xs : List Int) : RowsRen q h (xs.map bR) (xs.map bR) :=
  RowsRen.mapF xs bR bR fun x _ => ⟨rfl, fun j c c' a b => by rw [a] at b; cases b; rcases j with _ | j <;> simp at a; subst a; exact .val _⟩
theorem Ren.gg {L I F : Prs} {h : Hp} {r r' : Nat} (h0 : I.has r r' = true) (xs : List Int) : Ren (qOf L I F) h (gL r xs) (gL r' xs) := by
  obtain ⟨a, b, c⟩ := bytes_cells (q := qOf L I F) (h := h) xs
  exact .glist _ _ _ _ _ ((Prs.has_iff I r r').1 h0) a b c
theorem Ren.ll {L I F : Prs} {h : Hp} {r r' : Nat} (h0 : I.has r r' = true) (xs : List Int) : Ren (qOf L I F) h (bL r xs) (bL r' xs) := by
  obtain ⟨a, b, c⟩ := bytes_cells (q := qOf L I F) (h := h) xs
  exact .list _ _ _ _ _ ((Prs.has_iff I r r').1 h0) a b c
theorem Ren.g2 {L I F : Prs} {h : Hp} {r r' : Nat} (h0 : I.has r r' = true) (xs : List Int) : Ren (qOf L I F) h (gL r xs) (bL r' xs) := .gl _ _ _ _ (Ren.ll h0 xs)
abbrev Pt := Int × List Int
abbrev prt (r : Nat) (p : Pt) : List AV := [.val (.int .i64 p.1), bL r p.2]
abbrev prg (r : Nat) (p : Pt) : List AV := [.val (.int .i64 p.1), gL r p.2]
theorem parts_gg {L I F : Prs} {h : Hp} {r r' : Nat} (h0 : I.has r r' = true) (ps : List Pt) : RowsRen (qOf L I F) h (ps.map (prg r)) (ps.map (prg r')) :=
  RowsRen.mapF ps _ _ fun p _ => .cons (.val _) (.cons (Ren.gg h0 p.2) .nil)
theorem parts_g2 {L I F : Prs} {h : Hp} {r r' : Nat} (h0 : I.has r r' = true) (ps : List Pt) : RowsRen (qOf L I F) h (ps.map (prg r)) (ps.map (prt r')) :=
  RowsRen.mapF ps _ _ fun p _ => .cons (.val _) (.cons (Ren.g2 h0 p.2) .nil)
theorem parts_ll {L I F : Prs} {h : Hp} {r r' : Nat} (h0 : I.has r r' = true) (ps : List Pt) : RowsRen (qOf L I F) h (ps.map (prt r)) (ps.map (prt r')) :=
  RowsRen.mapF ps _ _ fun p _ => .cons (.val _) (.cons (Ren.ll h0 p.2) .nil)
theorem row_gg {L I F : Prs} {h : Hp} {r r' : Nat} (h0 : I.has r r' = true) (p : Pt) : RowsRen (qOf L I F) h [prg r p] [prg r' p] := parts_gg h0 [p]
theorem parts_snoc {α : Type} {ps : List Pt} {k : Nat} {p : Pt} (f : Pt → α) (h : ps[k]? = some p) : (ps.take (k + 1)).map f = (ps.take k).map f ++ [f p] := by
  rw [take_snoc h]; simp
theorem pl_parts (ps : List Pt) : PlRows (ps.map (prt 0)) := PlRows.mapF ps _ fun x _ => plT
def PtsOk (ps : List Pt) : Prop := ps.length ≤ 100000000 ∧ ∀ p ∈ ps, p.2.length ≤ 100000000
theorem copyPart_l (s : Int) (xs : List Int) (hx : xs.length ≤ 100000000) : ACallL Tryz.prog 140 [.agg [.val (.int .i64 s), bL 0 xs]] [.perm] (.agg [.val (.int .i64 s), gL 1 xs]) [.perm, .uniq] := by
  refine ACallL.of_ev mixed Tryz.func140 rfl (fun a w => Tryz.call140 a w) (congrArg Array.toList Tryz.results140) Tryz.ntmps140 fun B hB => ?_
  ((conv => whnf); (repeat' ((first | (with_reducible first | refine qif_n ?_ | refine qif_t ‹_› ?_ | refine qif_f ‹_› ?_) | ((with_reducible refine qif_t ?_ ?_); focus decide) | ((with_reducible refine qif_f ?_ ?_); focus decide) | (with_reducible refine And.intro (orderOk_i ?ho) ?_; (case ho => kernel_rfl)) | (with_reducible first | refine qif_i (fun _ => ?_) (fun _ => ?_) | refine frcVs_i ?_ | refine frcRs_i ?_)) <;> (conv => whnf))))
  ((with_reducible refine qCall.fresh (fun r => gL r xs) (copyBytes_l xs hx) [(0, 0)] [] ?hk ?_); (case hk => rfl); (conv => whnf); (repeat (refine And.intro ?_ ?_; exact sideT; (conv => whnf))); (fail_if_success (with_reducible first | refine And.intro (eqv_i ?_) ?_ | refine And.intro (ren_i ?_) ?_)))
  ((conv => whnf); (repeat' ((first | (with_reducible first | refine qif_n ?_ | refine qif_t ‹_› ?_ | refine qif_f ‹_› ?_) | ((with_reducible refine qif_t ?_ ?_); focus decide) | ((with_reducible refine qif_f ?_ ?_); focus decide) | (with_reducible refine And.intro (orderOk_i ?ho) ?_; (case ho => kernel_rfl)) | (with_reducible first | refine qif_i (fun _ => ?_) (fun _ => ?_) | refine frcVs_i ?_ | refine frcRs_i ?_)) <;> (conv => whnf))))
  (refine qConv.of hB [] [(0, 0), (4, 1)] [] (by rfl) ?_; focus ((conv => whnf); (repeat (refine And.intro ?_ ?_; rotate_left; (conv => whnf))); exact trivial; all_goals (try exact andT)))
  all_goals first | rfl | exact bytes_ren rfl rfl
theorem copyParts_l (ps : List Pt) (hp : PtsOk ps) : ACallL Tryz.prog 120 [.list 0 2 (ps.map (prt 0))] [.perm] (.glist 1 2 (ps.map (prg 2))) [.perm, .uniq, .uniq] := by
  obtain ⟨hl, hb⟩ := hp
  refine ACallL.of_ev mixed Tryz.func120 rfl (fun a w => Tryz.call120 a w) (congrArg Array.toList Tryz.results120) Tryz.ntmps120 fun B hB => ?_
  ((conv => whnf); (repeat' ((first | (with_reducible first | refine qif_n ?_ | refine qif_t ‹_› ?_ | refine qif_f ‹_› ?_) | ((with_reducible refine qif_t ?_ ?_); focus decide) | ((with_reducible refine qif_f ?_ ?_); focus decide) | (with_reducible refine And.intro (orderOk_i ?ho) ?_; (case ho => kernel_rfl)) | (with_reducible first | refine qif_i (fun _ => ?_) (fun _ => ?_) | refine frcVs_i ?_ | refine frcRs_i ?_)) <;> (conv => whnf))))
  refine qAW.loop mixed (X := Nat) (fun k => slotsOf 20 [(0, .list 0 2 (ps.map (prt 0))), (3, .glist 1 2 ((ps.take k).map (prg 2))), (4, .val (.int .i64 k))]) (fun k => [.perm, .uniq, .uniq]) (fun k => k ≤ ps.length) (fun k => ps.length - k) 0 (Nat.zero_le _) ?_ ?_
  · (refine qConv.of hB [] [(0, 0)] [] (by rfl) ?_; focus ((conv => whnf); (repeat (refine And.intro ?_ ?_; rotate_left; (conv => whnf))); exact trivial; all_goals (try exact andT)))
    all_goals first | rfl | exact parts_ll rfl ps
  · intro k hk
    have hlen : (ps.map (prt 0)).length = ps.length := by simp
    have htl : ((ps.take k).map (prg 2)).length = k := by simp; omega
    by_cases hlt : k < ps.length
    · obtain ⟨⟨s, xs⟩, hxk⟩ : ∃ p, ps[k]? = some p := ⟨_, List.getElem?_eq_getElem hlt⟩
      have hx := hb _ (List.mem_of_getElem? hxk)
      have hrow : (ps.map (prt 0))[(k : Int).toNat]? = some [.val (.int .i64 s), bL 0 xs] := by simp [hxk]
      have w := IntWalk.i64_in (k + 1) (by omega)
      ((conv => whnf); (repeat' ((first | (with_reducible first | refine qif_n ?_ | refine qif_t ‹_› ?_ | refine qif_f ‹_› ?_) | ((with_reducible refine qif_t ?_ ?_); focus decide) | ((with_reducible refine qif_f ?_ ?_); focus decide) | (with_reducible refine And.intro (orderOk_i ?ho) ?_; (case ho => kernel_rfl)) | ((with_reducible refine qif_t ?_ ?_); focus (simp [hlen, hlt]; done)) | ((with_reducible refine qif_f ?_ ?_); focus (simp [hlen, hlt]; done)) | (with_reducible first | refine qif_i (fun _ => ?_) (fun _ => ?_) | refine frcVs_i ?_ | refine frcRs_i ?_) | (refine qCase_i (idxL rfl rfl rfl rfl rfl rfl (by omega) hrow) ?_)) <;> (conv => whnf))))
      ((with_reducible refine qCall.fresh (fun r => .agg [.val (.int .i64 s), gL r xs]) (copyPart_l s xs hx) [(0, 0)] [] ?hk ?_); (case hk => rfl); (conv => whnf); (repeat (refine And.intro ?_ ?_; exact sideT; (conv => whnf))); (fail_if_success (with_reducible first | refine And.intro (eqv_i ?_) ?_ | refine And.intro (ren_i ?_) ?_)))
      ((conv => whnf); (repeat' ((first | (with_reducible first | refine qif_n ?_ | refine qif_t ‹_› ?_ | refine qif_f ‹_› ?_) | ((with_reducible refine qif_t ?_ ?_); focus decide) | ((with_reducible refine qif_f ?_ ?_); focus decide) | (with_reducible refine And.intro (orderOk_i ?ho) ?_; (case ho => kernel_rfl)) | (with_reducible first | refine qif_i (fun _ => ?_) (fun _ => ?_) | refine frcVs_i ?_ | refine frcRs_i ?_) | (refine qCase_i (apG (nb := 32) rfl rfl rfl rfl rfl rfl rfl rfl rfl rfl (by decide) rfl (by rw [htl]; simp; omega)) ?_)) <;> (conv => whnf))))
      refine ⟨k + 1, by omega, by omega, ?_⟩
      (refine qConv.of hB [] [(0, 0), (5, 1), (2, 2), (3, 2)] [] (by rfl) ?_; focus ((conv => whnf); (repeat (refine And.intro ?_ ?_; rotate_left; (conv => whnf))); exact trivial; all_goals (try exact andT)))
      all_goals first | rfl | exact parts_ll rfl ps | (rw [parts_snoc (prg 2) hxk]; exact (parts_gg rfl _).app (row_gg rfl (s, xs))) | (simp [w]; done)
    · ((conv => whnf); (repeat' ((first | (with_reducible first | refine qif_n ?_ | refine qif_t ‹_› ?_ | refine qif_f ‹_› ?_) | ((with_reducible refine qif_t ?_ ?_); focus decide) | ((with_reducible refine qif_f ?_ ?_); focus decide) | (with_reducible refine And.intro (orderOk_i ?ho) ?_; (case ho => kernel_rfl)) | ((with_reducible refine qif_t ?_ ?_); focus (simp [hlen, hlt]; done)) | ((with_reducible refine qif_f ?_ ?_); focus (simp [hlen, hlt]; done)) | (with_reducible first | refine qif_i (fun _ => ?_) (fun _ => ?_) | refine frcVs_i ?_ | refine frcRs_i ?_)) <;> (conv => whnf))))
      have : k = ps.length := by omega
      subst this
      (refine qConv.of hB [] [(0, 0), (1, 1), (2, 2)] [] (by rfl) ?_; focus ((conv => whnf); (repeat (refine And.intro ?_ ?_; rotate_left; (conv => whnf))); exact trivial; all_goals (try exact andT)))
      all_goals first | rfl | (rw [List.take_length]; exact parts_gg rfl ps)
theorem copyBuffer_l (n : Int) (ps : List Pt) (hp : PtsOk ps) : ACallL Tryz.prog 82 [.agg [.val (.int .i64 n), .list 0 2 (ps.map (prt 0))]] [.perm] (.agg [.val (.int .i64 n), .glist 1 2 (ps.map (prg 2))]) [.perm, .uniq, .uniq] := by
  refine ACallL.of_ev mixed Tryz.func82 rfl (fun a w => Tryz.call82 a w) (congrArg Array.toList Tryz.results82) Tryz.ntmps82 fun B hB => ?_
  ((conv => whnf); (repeat' ((first | (with_reducible first | refine qif_n ?_ | refine qif_t ‹_› ?_ | refine qif_f ‹_› ?_) | ((with_reducible refine qif_t ?_ ?_); focus decide) | ((with_reducible refine qif_f ?_ ?_); focus decide) | (with_reducible refine And.intro (orderOk_i ?ho) ?_; (case ho => kernel_rfl)) | (with_reducible first | refine qif_i (fun _ => ?_) (fun _ => ?_) | refine frcVs_i ?_ | refine frcRs_i ?_)) <;> (conv => whnf))))
  ((with_reducible refine qCall.of (copyParts_l ps hp) [] [(0, 0)] [] [(1, 4), (2, 5)] [(4, .uniq), (5, .uniq)] (.glist 4 2 (ps.map (prg 5))) ?hk ?_); (case hk => rfl); (conv => whnf); (repeat (refine And.intro ?_ ?_; exact sideT; (conv => whnf))); (fail_if_success (with_reducible first | refine And.intro (eqv_i ?_) ?_ | refine And.intro (ren_i ?_) ?_)))
  ((conv => whnf); (repeat' ((first | (with_reducible first | refine qif_n ?_ | refine qif_t ‹_› ?_ | refine qif_f ‹_› ?_) | ((with_reducible refine qif_t ?_ ?_); focus decide) | ((with_reducible refine qif_f ?_ ?_); focus decide) | (with_reducible refine And.intro (orderOk_i ?ho) ?_; (case ho => kernel_rfl)) | (with_reducible first | refine qif_i (fun _ => ?_) (fun _ => ?_) | refine frcVs_i ?_ | refine frcRs_i ?_)) <;> (conv => whnf))))
  (refine qConv.of hB [] [(0, 0), (4, 1), (5, 2)] [] (by rfl) ?_; focus ((conv => whnf); (repeat (refine And.intro ?_ ?_; rotate_left; (conv => whnf))); exact trivial; all_goals (try exact andT)))
  all_goals first | rfl | exact parts_gg rfl ps
theorem eqPart_l (p q : Pt) (hp : p.2.length ≤ 100000000) : ACallL Tryz.prog 156 [.agg (prt 0 p), .agg (prt 0 q)] [.perm] (.val (.bool (p == q))) [.perm] := by
  obtain ⟨s, xs⟩ := p
  obtain ⟨t, ys⟩ := q
  have e : ((s, xs) == (t, ys)) = (s == t && xs == ys) := rfl
  rw [e]
  by_cases hst : s = t
  · subst hst
    refine ACallL.of_ev mixed Tryz.func156 rfl (fun a w => Tryz.call156 a w) (congrArg Array.toList Tryz.results156) Tryz.ntmps156 fun B hB => ?_
    ((conv => whnf); (repeat' ((first | (with_reducible first | refine qif_n ?_ | refine qif_t ‹_› ?_ | refine qif_f ‹_› ?_) | ((with_reducible refine qif_t ?_ ?_); focus decide) | ((with_reducible refine qif_f ?_ ?_); focus decide) | (with_reducible refine And.intro (orderOk_i ?ho) ?_; (case ho => kernel_rfl)) | ((with_reducible refine qif_t ?_ ?_); focus (simp []; done)) | ((with_reducible refine qif_f ?_ ?_); focus (simp []; done)) | (with_reducible first | refine qif_i (fun _ => ?_) (fun _ => ?_) | refine frcVs_i ?_ | refine frcRs_i ?_)) <;> (conv => whnf))))
    ((with_reducible refine qCall.reads (eqBytes_l xs ys hp) [(0, 0)] [] ?hk ?_); (case hk => rfl); (conv => whnf); (repeat (refine And.intro ?_ ?_; exact sideT; (conv => whnf))); (fail_if_success (with_reducible first | refine And.intro (eqv_i ?_) ?_ | refine And.intro (ren_i ?_) ?_)))
    ((conv => whnf); (repeat' ((first | (with_reducible first | refine qif_n ?_ | refine qif_t ‹_› ?_ | refine qif_f ‹_› ?_) | ((with_reducible refine qif_t ?_ ?_); focus decide) | ((with_reducible refine qif_f ?_ ?_); focus decide) | (with_reducible refine And.intro (orderOk_i ?ho) ?_; (case ho => kernel_rfl)) | ((with_reducible refine qif_t ?_ ?_); focus (simp []; done)) | ((with_reducible refine qif_f ?_ ?_); focus (simp []; done)) | (with_reducible first | refine qif_i (fun _ => ?_) (fun _ => ?_) | refine frcVs_i ?_ | refine frcRs_i ?_)) <;> (conv => whnf))))
    (refine qConv.of hB [] [(0, 0)] [] (by rfl) ?_; focus ((conv => whnf); (repeat (refine And.intro ?_ ?_; rotate_left; (conv => whnf))); exact trivial; all_goals (try exact andT)))
    all_goals simp
  · have hb : (s == t) = false := by simpa using hst
    refine ACallL.of_ev mixed Tryz.func156 rfl (fun a w => Tryz.call156 a w) (congrArg Array.toList Tryz.results156) Tryz.ntmps156 fun B hB => ?_
    ((conv => whnf); (repeat' ((first | (with_reducible first | refine qif_n ?_ | refine qif_t ‹_› ?_ | refine qif_f ‹_› ?_) | ((with_reducible refine qif_t ?_ ?_); focus decide) | ((with_reducible refine qif_f ?_ ?_); focus decide) | (with_reducible refine And.intro (orderOk_i ?ho) ?_; (case ho => kernel_rfl)) | ((with_reducible refine qif_t ?_ ?_); focus (simp [hst]; done)) | ((with_reducible refine qif_f ?_ ?_); focus (simp [hst]; done)) | (with_reducible first | refine qif_i (fun _ => ?_) (fun _ => ?_) | refine frcVs_i ?_ | refine frcRs_i ?_)) <;> (conv => whnf))))
    (refine qConv.of hB [] [(0, 0)] [] (by rfl) ?_; focus ((conv => whnf); (repeat (refine And.intro ?_ ?_; rotate_left; (conv => whnf))); exact trivial; all_goals (try exact andT)))
    all_goals simp [hst]
theorem list_beq_len {α : Type} [BEq α] [LawfulBEq α] {xs ys : List α} (h : xs.length ≠ ys.length) : (xs == ys) = false := by
  rw [beq_eq_false_iff_ne]; rintro rfl; exact h rfl
theorem list_beq_at {α : Type} [BEq α] [LawfulBEq α] {xs ys : List α} {k : Nat} {x y : α} (hx : xs[k]? = some x) (hy : ys[k]? = some y) (h : (x == y) = false) : (xs == ys) = false := by
  rw [beq_eq_false_iff_ne]; rintro rfl; rw [hx] at hy; cases hy; simp at h
theorem eqParts_l (ps qs : List Pt) (hp : PtsOk ps) : ACallL Tryz.prog 148 [.list 0 2 (ps.map (prt 0)), .list 0 2 (qs.map (prt 0))] [.perm] (.val (.bool (ps == qs))) [.perm] := by
  obtain ⟨hl0, hb⟩ := hp
  have lx : (ps.map (prt 0)).length = ps.length := by simp
  have ly : (qs.map (prt 0)).length = qs.length := by simp
  have px := pl_parts ps
  have py := pl_parts qs
  by_cases hl : ps.length = qs.length
  · have hl' : (qs.length : Int) = ps.length := by omega
    refine ACallL.of_ev mixed Tryz.func148 rfl (fun a w => Tryz.call148 a w) (congrArg Array.toList Tryz.results148) Tryz.ntmps148 fun B hB => ?_
    ((conv => whnf); (repeat' ((first | (with_reducible first | refine qif_n ?_ | refine qif_t ‹_› ?_ | refine qif_f ‹_› ?_) | ((with_reducible refine qif_t ?_ ?_); focus decide) | ((with_reducible refine qif_f ?_ ?_); focus decide) | (with_reducible refine And.intro (orderOk_i ?ho) ?_; (case ho => kernel_rfl)) | ((with_reducible refine qif_t ?_ ?_); focus (simp [lx, ly, hl']; done)) | ((with_reducible refine qif_f ?_ ?_); focus (simp [lx, ly, hl']; done)) | (with_reducible first | refine qif_i (fun _ => ?_) (fun _ => ?_) | refine frcVs_i ?_ | refine frcRs_i ?_)) <;> (conv => whnf))))
    refine qAW.loop mixed (X := Nat) (fun k => slotsOf 27 [(0, .list 0 2 (ps.map (prt 0))), (1, .list 0 2 (qs.map (prt 0))), (5, .val (.int .i64 k))]) (fun k => [.perm]) (fun k => k ≤ ps.length ∧ ∀ i < k, ps[i]? = qs[i]?) (fun k => ps.length - k) 0 ⟨Nat.zero_le _, by omega⟩ ?_ ?_
    · (refine qConv.of hB [] [(0, 0)] [] (by rfl) ?_; focus ((conv => whnf); (repeat (refine And.intro ?_ ?_; rotate_left; (conv => whnf))); exact trivial; all_goals (try exact andT)))
      all_goals rfl
    · rintro k ⟨hk, heq⟩
      by_cases hlt : k < ps.length
      · obtain ⟨x, hxk⟩ : ∃ x, ps[k]? = some x := ⟨_, List.getElem?_eq_getElem hlt⟩
        obtain ⟨y, hyk⟩ : ∃ y, qs[k]? = some y := ⟨_, List.getElem?_eq_getElem (by omega)⟩
        have hrx : (ps.map (prt 0))[(k : Int).toNat]? = some (prt 0 x) := by simp [hxk]
        have hry : (qs.map (prt 0))[(k : Int).toNat]? = some (prt 0 y) := by simp [hyk]
        have w := IntWalk.i64_in (k + 1) (by omega)
        obtain ⟨b, hxy⟩ : ∃ b, (x == y) = b := ⟨_, rfl⟩
        have hc := eqPart_l x y (hb x (List.mem_of_getElem? hxk))
        rw [hxy] at hc
        cases b with
        | true =>
          ((conv => whnf); (repeat' ((first | (with_reducible first | refine qif_n ?_ | refine qif_t ‹_› ?_ | refine qif_f ‹_› ?_) | ((with_reducible refine qif_t ?_ ?_); focus decide) | ((with_reducible refine qif_f ?_ ?_); focus decide) | (with_reducible refine And.intro (orderOk_i ?ho) ?_; (case ho => kernel_rfl)) | ((with_reducible refine qif_t ?_ ?_); focus (simp [lx, hlt]; done)) | ((with_reducible refine qif_f ?_ ?_); focus (simp [lx, hlt]; done)) | (with_reducible first | refine qif_i (fun _ => ?_) (fun _ => ?_) | refine frcVs_i ?_ | refine frcRs_i ?_) | (refine qCase_i (idxL rfl rfl rfl rfl rfl rfl (by omega) hrx) ?_) | (refine qCase_i (idxL rfl rfl rfl rfl rfl rfl (by omega) hry) ?_) | ((with_reducible refine qCall.pure (hc) ?_ ?_ ?_ ?_); rotate_left 4; exact trivial; exact plT; exact plT)) <;> (conv => whnf))))
          refine ⟨k + 1, ⟨by omega, fun i hi => ?_⟩, by omega, ?_⟩
          · rcases Nat.lt_succ_iff_lt_or_eq.1 hi with h | rfl
            · exact heq i h
            · rw [hxk, hyk, eq_of_beq hxy]
          · (refine qConv.of hB [] [(0, 0)] [] (by rfl) ?_; focus ((conv => whnf); (repeat (refine And.intro ?_ ?_; rotate_left; (conv => whnf))); exact trivial; all_goals (try exact andT)))
            all_goals first | rfl | (simp [w]; done)
        | false =>
          ((conv => whnf); (repeat' ((first | (with_reducible first | refine qif_n ?_ | refine qif_t ‹_› ?_ | refine qif_f ‹_› ?_) | ((with_reducible refine qif_t ?_ ?_); focus decide) | ((with_reducible refine qif_f ?_ ?_); focus decide) | (with_reducible refine And.intro (orderOk_i ?ho) ?_; (case ho => kernel_rfl)) | ((with_reducible refine qif_t ?_ ?_); focus (simp [lx, hlt]; done)) | ((with_reducible refine qif_f ?_ ?_); focus (simp [lx, hlt]; done)) | (with_reducible first | refine qif_i (fun _ => ?_) (fun _ => ?_) | refine frcVs_i ?_ | refine frcRs_i ?_) | (refine qCase_i (idxL rfl rfl rfl rfl rfl rfl (by omega) hrx) ?_) | (refine qCase_i (idxL rfl rfl rfl rfl rfl rfl (by omega) hry) ?_) | ((with_reducible refine qCall.pure (hc) ?_ ?_ ?_ ?_); rotate_left 4; exact trivial; exact plT; exact plT)) <;> (conv => whnf))))
          (refine qConv.of hB [] [(0, 0)] [] (by rfl) ?_; focus ((conv => whnf); (repeat (refine And.intro ?_ ?_; rotate_left; (conv => whnf))); exact trivial; all_goals (try exact andT)))
          rw [list_beq_at hxk hyk hxy]
      · ((conv => whnf); (repeat' ((first | (with_reducible first | refine qif_n ?_ | refine qif_t ‹_› ?_ | refine qif_f ‹_› ?_) | ((with_reducible refine qif_t ?_ ?_); focus decide) | ((with_reducible refine qif_f ?_ ?_); focus decide) | (with_reducible refine And.intro (orderOk_i ?ho) ?_; (case ho => kernel_rfl)) | ((with_reducible refine qif_t ?_ ?_); focus (simp [lx, hlt]; done)) | ((with_reducible refine qif_f ?_ ?_); focus (simp [lx, hlt]; done)) | (with_reducible first | refine qif_i (fun _ => ?_) (fun _ => ?_) | refine frcVs_i ?_ | refine frcRs_i ?_)) <;> (conv => whnf))))
        (refine qConv.of hB [] [(0, 0)] [] (by rfl) ?_; focus ((conv => whnf); (repeat (refine And.intro ?_ ?_; rotate_left; (conv => whnf))); exact trivial; all_goals (try exact andT)))
        have : ps = qs := List.ext_getElem? fun i => by
          by_cases hi : i < k
          · exact heq i hi
          · rw [List.getElem?_eq_none (by omega), List.getElem?_eq_none (by omega)]
        simp [this]
  · have hl' : ¬ (ps.length : Int) = qs.length := by omega
    refine ACallL.of_ev mixed Tryz.func148 rfl (fun a w => Tryz.call148 a w) (congrArg Array.toList Tryz.results148) Tryz.ntmps148 fun B hB => ?_
    ((conv => whnf); (repeat' ((first | (with_reducible first | refine qif_n ?_ | refine qif_t ‹_› ?_ | refine qif_f ‹_› ?_) | ((with_reducible refine qif_t ?_ ?_); focus decide) | ((with_reducible refine qif_f ?_ ?_); focus decide) | (with_reducible refine And.intro (orderOk_i ?ho) ?_; (case ho => kernel_rfl)) | ((with_reducible refine qif_t ?_ ?_); focus (simp [lx, ly, hl']; done)) | ((with_reducible refine qif_f ?_ ?_); focus (simp [lx, ly, hl']; done)) | (with_reducible first | refine qif_i (fun _ => ?_) (fun _ => ?_) | refine frcVs_i ?_ | refine frcRs_i ?_)) <;> (conv => whnf))))
    (refine qConv.of hB [] [(0, 0)] [] (by rfl) ?_; focus ((conv => whnf); (repeat (refine And.intro ?_ ?_; rotate_left; (conv => whnf))); exact trivial; all_goals (try exact andT)))
    rw [list_beq_len hl]
theorem eqBuffer_l (n m : Int) (ps qs : List Pt) (hp : PtsOk ps) : ACallL Tryz.prog 139 [.agg [.val (.int .i64 n), .list 0 2 (ps.map (prt 0))], .agg [.val (.int .i64 m), .list 0 2 (qs.map (prt 0))]] [.perm] (.val (.bool (n == m && ps == qs))) [.perm] := by
  have px := pl_parts ps
  have py := pl_parts qs
  by_cases hst : n = m
  · subst hst
    refine ACallL.of_ev mixed Tryz.func139 rfl (fun a w => Tryz.call139 a w) (congrArg Array.toList Tryz.results139) Tryz.ntmps139 fun B hB => ?_
    ((conv => whnf); (repeat' ((first | (with_reducible first | refine qif_n ?_ | refine qif_t ‹_› ?_ | refine qif_f ‹_› ?_) | ((with_reducible refine qif_t ?_ ?_); focus decide) | ((with_reducible refine qif_f ?_ ?_); focus decide) | (with_reducible refine And.intro (orderOk_i ?ho) ?_; (case ho => kernel_rfl)) | ((with_reducible refine qif_t ?_ ?_); focus (simp []; done)) | ((with_reducible refine qif_f ?_ ?_); focus (simp []; done)) | (with_reducible first | refine qif_i (fun _ => ?_) (fun _ => ?_) | refine frcVs_i ?_ | refine frcRs_i ?_)) <;> (conv => whnf))))
    ((with_reducible refine qCall.reads (eqParts_l ps qs hp) [(0, 0)] [] ?hk ?_); (case hk => rfl); (conv => whnf); (repeat (refine And.intro ?_ ?_; exact sideT; (conv => whnf))); (fail_if_success (with_reducible first | refine And.intro (eqv_i ?_) ?_ | refine And.intro (ren_i ?_) ?_)))
    ((conv => whnf); (repeat' ((first | (with_reducible first | refine qif_n ?_ | refine qif_t ‹_› ?_ | refine qif_f ‹_› ?_) | ((with_reducible refine qif_t ?_ ?_); focus decide) | ((with_reducible refine qif_f ?_ ?_); focus decide) | (with_reducible refine And.intro (orderOk_i ?ho) ?_; (case ho => kernel_rfl)) | ((with_reducible refine qif_t ?_ ?_); focus (simp []; done)) | ((with_reducible refine qif_f ?_ ?_); focus (simp []; done)) | (with_reducible first | refine qif_i (fun _ => ?_) (fun _ => ?_) | refine frcVs_i ?_ | refine frcRs_i ?_)) <;> (conv => whnf))))
    (refine qConv.of hB [] [(0, 0)] [] (by rfl) ?_; focus ((conv => whnf); (repeat (refine And.intro ?_ ?_; rotate_left; (conv => whnf))); exact trivial; all_goals (try exact andT)))
    all_goals simp
  · refine ACallL.of_ev mixed Tryz.func139 rfl (fun a w => Tryz.call139 a w) (congrArg Array.toList Tryz.results139) Tryz.ntmps139 fun B hB => ?_
    ((conv => whnf); (repeat' ((first | (with_reducible first | refine qif_n ?_ | refine qif_t ‹_› ?_ | refine qif_f ‹_› ?_) | ((with_reducible refine qif_t ?_ ?_); focus decide) | ((with_reducible refine qif_f ?_ ?_); focus decide) | (with_reducible refine And.intro (orderOk_i ?ho) ?_; (case ho => kernel_rfl)) | ((with_reducible refine qif_t ?_ ?_); focus (simp [hst]; done)) | ((with_reducible refine qif_f ?_ ?_); focus (simp [hst]; done)) | (with_reducible first | refine qif_i (fun _ => ?_) (fun _ => ?_) | refine frcVs_i ?_ | refine frcRs_i ?_)) <;> (conv => whnf))))
    (refine qConv.of hB [] [(0, 0)] [] (by rfl) ?_; focus ((conv => whnf); (repeat (refine And.intro ?_ ?_; rotate_left; (conv => whnf))); exact trivial; all_goals (try exact andT)))
    all_goals simp [hst]
end Go.Proofs.YtceohcbokbalhaaGreat

/- The reassembler's small functions on data. No condition but lengths. -/
namespace Go.Proofs.YtceohcbokbalhaaGreat
open Go.RowKit
set_option linter.unusedVariables false
set_option linter.unusedSimpArgs false
set_option maxRecDepth 100000
set_option maxHeartbeats 4000000
theorem ones_prt (r : Nat) (ps : List Pt) : (ps.map (prt r)).all (fun r => r.all AV.one) = true := by simp [AV.one, Value.oneCell']
theorem cloneP_l (p : Pt) (ps : List Pt) (hp : PtsOk (p :: ps)) : ACallL Tryz.prog 142 [.list 0 2 ((p :: ps).map (prt 0))] [.perm] (.sl 1 0 (ps.length + 1)) [.perm, .live ⟨2, 88, (p :: ps).map (prt 0)⟩] := by
  have hl := hp.1
  refine ACallL.of_ev mixed Tryz.func142 rfl (fun a w => Tryz.call142 a w) (congrArg Array.toList Tryz.results142) Tryz.ntmps142 fun B hB => ?_
  ((conv => whnf); (repeat' ((first | (with_reducible first | refine qif_n ?_ | refine qif_t ‹_› ?_ | refine qif_f ‹_› ?_) | ((with_reducible refine qif_t ?_ ?_); focus decide) | ((with_reducible refine qif_f ?_ ?_); focus decide) | (with_reducible refine And.intro (orderOk_i ?ho) ?_; (case ho => kernel_rfl)) | (with_reducible first | refine qif_i (fun _ => ?_) (fun _ => ?_) | refine frcVs_i ?_ | refine frcRs_i ?_) | (refine qOpen.nilF rfl rfl rfl rfl rfl ?_) | (refine qCase_i (apS (nb := 32) rfl rfl rfl rfl rfl rfl rfl rfl rfl rfl (by decide) (ones_prt 0 (_ :: _)) ⟨rfl, rfl, rfl⟩ rfl (by simp at hl ⊢; omega)) ?_)) <;> (conv => whnf))))
  (refine qConv.of hB [(2, 1)] [(0, 0)] [] (by rfl) ?_; focus ((conv => whnf); (repeat (refine And.intro ?_ ?_; rotate_left; (conv => whnf))); exact trivial; all_goals (try exact andT)))
  all_goals first | rfl | exact parts_ll rfl _ | (simp; done)
theorem cloneP_nil : ACallL Tryz.prog 142 [.list 0 2 []] [.perm] (.glist 1 2 []) [.perm, .uniq] := by
  refine ACallL.of_calls (fun a w => Tryz.call142 a w) fun m w vs rel hl => ?_
  obtain ⟨v, rfl⟩ : ∃ v, vs = #[v] := by
    obtain ⟨vs⟩ := vs
    match vs, hl.1 with
    | [v], _ => exact ⟨v, rfl⟩
  have hR := hl.2 0 _ v rfl rfl
  clear hl
  have he := fun (w : World) (a : Option Addr) (n c : Nat) => Lib.run_eql_slice_nil (P := Tryz.prog) w 44 88 a n c 0 0 Tryz.underlying44
  rcases R.nil_inv (h := ofL [.perm]) (r := 0) trivial hR with rfl | ⟨a, cap, rfl⟩
  · clear hR rel
    go_enter Tryz.func142, Tryz.ntmps142
    go_wp2
    go_ret
    exact ⟨_, rfl, (by repeat (first | (with_reducible exact Below.refl _ _) | (with_reducible assumption) | ((with_reducible refine Below.alloc ?_ ?_ _); rotate_left; focus (first | (simp; done) | (simp; omega) | omega)) | ((with_reducible refine Below.setCell ?_ ?_ _); rotate_left; focus (first | (simp; done) | (simp; omega) | omega)) | (with_reducible refine Below.drew ?_) | ((with_reducible apply Below.then); rotate_left; (with_reducible assumption)))), fun m' => .gnil _ _⟩
  · clear hR rel
    go_enter Tryz.func142, Tryz.ntmps142
    go_wp2
    go_ret
    exact ⟨_, rfl, (by repeat (first | (with_reducible exact Below.refl _ _) | (with_reducible assumption) | ((with_reducible refine Below.alloc ?_ ?_ _); rotate_left; focus (first | (simp; done) | (simp; omega) | omega)) | ((with_reducible refine Below.setCell ?_ ?_ _); rotate_left; focus (first | (simp; done) | (simp; omega) | omega)) | (with_reducible refine Below.drew ?_) | ((with_reducible apply Below.then); rotate_left; (with_reducible assumption)))), fun m' => .gemp _ _ _ trivial⟩
theorem own_rows {ps : List Pt} {k i : Nat} {p : Pt} (h : ps[k]? = some p) (r r' : Nat) (hi : i = k) : ((ps.take k).map (prg r) ++ (ps.drop k).map (prt 0)).set i (prg r' p) = (ps.take k).map (prg r) ++ ([prg r' p] ++ (ps.drop (k + 1)).map (prt 0)) := by
  subst hi
  have hk : i < ps.length := (List.getElem?_eq_some_iff.1 h).1
  have e : ps.drop i = p :: ps.drop (i + 1) := by
    rw [List.drop_eq_getElem_cons hk]; rw [List.getElem?_eq_getElem hk] at h; cases h; rfl
  rw [e, List.map_cons, List.set_append_right _ _ (by simp; omega)]
  simp [Nat.min_eq_left (Nat.le_of_lt hk)]
theorem own_row {ps : List Pt} {k : Nat} {p : Pt} (h : ps[k]? = some p) (r : Nat) : ((ps.take k).map (prg r) ++ (ps.drop k).map (prt 0))[0 + (k : Int).toNat]? = some (prt 0 p) := by
  have hk : k < ps.length := (List.getElem?_eq_some_iff.1 h).1
  simp [List.getElem?_append, Nat.min_eq_left (Nat.le_of_lt hk), h]
theorem own_l (n : Int) (ps : List Pt) (hp : PtsOk ps) : ACallL Tryz.prog 129 [.agg [.val (.int .i64 n), .list 0 2 (ps.map (prt 0))]] [.perm] (.agg [.val (.int .i64 n), .glist 1 2 (ps.map (prg 2))]) [.perm, .uniq, .uniq] := by
  cases ps with
  | nil =>
    refine ACallL.of_ev mixed Tryz.func129 rfl (fun a w => Tryz.call129 a w) (congrArg Array.toList Tryz.results129) Tryz.ntmps129 fun B hB => ?_
    ((conv => whnf); (repeat' ((first | (with_reducible first | refine qif_n ?_ | refine qif_t ‹_› ?_ | refine qif_f ‹_› ?_) | ((with_reducible refine qif_t ?_ ?_); focus decide) | ((with_reducible refine qif_f ?_ ?_); focus decide) | (with_reducible refine And.intro (orderOk_i ?ho) ?_; (case ho => kernel_rfl)) | (with_reducible first | refine qif_i (fun _ => ?_) (fun _ => ?_) | refine frcVs_i ?_ | refine frcRs_i ?_)) <;> (conv => whnf))))
    ((with_reducible refine qCall.fresh (fun r => .glist r 2 []) (cloneP_nil) [(0, 0)] [] ?hk ?_); (case hk => rfl); (conv => whnf); (repeat (refine And.intro ?_ ?_; exact sideT; (conv => whnf))); (fail_if_success (with_reducible first | refine And.intro (eqv_i ?_) ?_ | refine And.intro (ren_i ?_) ?_)))
    ((conv => whnf); (repeat' ((first | (with_reducible first | refine qif_n ?_ | refine qif_t ‹_› ?_ | refine qif_f ‹_› ?_) | ((with_reducible refine qif_t ?_ ?_); focus decide) | ((with_reducible refine qif_f ?_ ?_); focus decide) | (with_reducible refine And.intro (orderOk_i ?ho) ?_; (case ho => kernel_rfl)) | (with_reducible first | refine qif_i (fun _ => ?_) (fun _ => ?_) | refine frcVs_i ?_ | refine frcRs_i ?_) | (refine qAW.unroll mixed 1 ?_)) <;> (conv => whnf))))
    all_goals (refine qConv.of hB [] [(0, 0), (3, 1)] [] (by rfl) ?_; focus ((conv => whnf); (repeat (refine And.intro ?_ ?_; rotate_left; (conv => whnf))); exact trivial; all_goals (try exact andT)))
    all_goals first | rfl | exact parts_gg rfl []
  | cons p0 ps0 =>
    obtain ⟨ps, hps⟩ : ∃ ps, ps = p0 :: ps0 := ⟨_, rfl⟩
    have hc := cloneP_l p0 ps0 hp
    have hn : ps0.length + 1 = ps.length := by rw [hps]; rfl
    rw [← hps] at hp hc ⊢
    rw [hn] at hc
    obtain ⟨hl, hb⟩ := hp
    refine ACallL.of_ev mixed Tryz.func129 rfl (fun a w => Tryz.call129 a w) (congrArg Array.toList Tryz.results129) Tryz.ntmps129 fun B hB => ?_
    ((conv => whnf); (repeat' ((first | (with_reducible first | refine qif_n ?_ | refine qif_t ‹_› ?_ | refine qif_f ‹_› ?_) | ((with_reducible refine qif_t ?_ ?_); focus decide) | ((with_reducible refine qif_f ?_ ?_); focus decide) | (with_reducible refine And.intro (orderOk_i ?ho) ?_; (case ho => kernel_rfl)) | (with_reducible first | refine qif_i (fun _ => ?_) (fun _ => ?_) | refine frcVs_i ?_ | refine frcRs_i ?_)) <;> (conv => whnf))))
    ((with_reducible refine qCall.of (hc) [] [(0, 0)] [] [(1, 3)] [(3, .live ⟨2, 88, ps.map (prt 0)⟩)] (.sl 3 0 ps.length) ?hk ?_); (case hk => rfl); (conv => whnf); (repeat (refine And.intro ?_ ?_; exact sideT; (conv => whnf))); (fail_if_success (with_reducible first | refine And.intro (eqv_i ?_) ?_ | refine And.intro (ren_i ?_) ?_)))
    ((conv => whnf); (repeat' ((first | (with_reducible first | refine qif_n ?_ | refine qif_t ‹_› ?_ | refine qif_f ‹_› ?_) | ((with_reducible refine qif_t ?_ ?_); focus decide) | ((with_reducible refine qif_f ?_ ?_); focus decide) | (with_reducible refine And.intro (orderOk_i ?ho) ?_; (case ho => kernel_rfl)) | (with_reducible first | refine qif_i (fun _ => ?_) (fun _ => ?_) | refine frcVs_i ?_ | refine frcRs_i ?_)) <;> (conv => whnf))))
    refine qAW.loop mixed (X := Nat) (fun k => slotsOf 28 [(1, .ptr 1 0 0), (2, .ptr 2 0 0), (10, .val (.int .i64 ps.length)), (11, .val (.int .i64 k))])
      (fun k => [.perm, .live ⟨2, 46, [[.val (.int .i64 n), .sl 3 0 ps.length]]⟩, .live ⟨2, 46, [[.val (.int .i64 0), .val (.slice none 0 0)]]⟩, .live ⟨2, 88, (ps.take k).map (prg 4) ++ (ps.drop k).map (prt 0)⟩, .uniq])
      (fun k => k ≤ ps.length) (fun k => ps.length - k) 0 (Nat.zero_le _) ?_ ?_
    · (refine qConv.of hB [(1, 1), (2, 2), (3, 3)] [(0, 0)] [] (by rfl) ?_; focus ((conv => whnf); (repeat (refine And.intro ?_ ?_; rotate_left; (conv => whnf))); exact trivial; all_goals (try exact andT)))
      all_goals first | rfl | (exact rowsT) | exact parts_ll rfl ps
    · intro k hk
      by_cases hlt : k < ps.length
      · obtain ⟨⟨s, xs⟩, hxk⟩ : ∃ p, ps[k]? = some p := ⟨_, List.getElem?_eq_getElem hlt⟩
        have hx := hb _ (List.mem_of_getElem? hxk)
        have hrow := own_row hxk 4
        have w := IntWalk.i64_in (k + 1) (by omega)
        ((conv => whnf); (repeat' ((first | (with_reducible first | refine qif_n ?_ | refine qif_t ‹_› ?_ | refine qif_f ‹_› ?_) | ((with_reducible refine qif_t ?_ ?_); focus decide) | ((with_reducible refine qif_f ?_ ?_); focus decide) | (with_reducible refine And.intro (orderOk_i ?ho) ?_; (case ho => kernel_rfl)) | ((with_reducible refine qif_t ?_ ?_); focus (simp [hlt]; done)) | ((with_reducible refine qif_f ?_ ?_); focus (simp [hlt]; done)) | (with_reducible first | refine qif_i (fun _ => ?_) (fun _ => ?_) | refine frcVs_i ?_ | refine frcRs_i ?_) | (refine qCase_i (idxS rfl rfl rfl rfl rfl rfl rfl rfl (by omega)) ?_) | (refine qCase_i (ldR rfl rfl rfl rfl rfl hrow rfl) ?_)) <;> (conv => whnf))))
        ((with_reducible refine qCall.fresh (fun r => gL r xs) (clone_l xs hx) [(0, 0)] [] ?hk ?_); (case hk => rfl); (conv => whnf); (repeat (refine And.intro ?_ ?_; exact sideT; (conv => whnf))); (fail_if_success (with_reducible first | refine And.intro (eqv_i ?_) ?_ | refine And.intro (ren_i ?_) ?_)))
        ((conv => whnf); (repeat' ((first | (with_reducible first | refine qif_n ?_ | refine qif_t ‹_› ?_ | refine qif_f ‹_› ?_) | ((with_reducible refine qif_t ?_ ?_); focus decide) | ((with_reducible refine qif_f ?_ ?_); focus decide) | (with_reducible refine And.intro (orderOk_i ?ho) ?_; (case ho => kernel_rfl)) | (with_reducible first | refine qif_i (fun _ => ?_) (fun _ => ?_) | refine frcVs_i ?_ | refine frcRs_i ?_) | (refine qCase_i (idxS rfl rfl rfl rfl rfl rfl rfl rfl (by omega)) ?_) | (refine qCase_i (stR rfl rfl rfl rfl hrow rfl rfl (Nat.le_of_ble_eq_true rfl)) ?_)) <;> (conv => whnf))))
        refine ⟨k + 1, by omega, by omega, ?_⟩
        (refine qConv.of hB [(1, 1), (2, 2), (3, 3)] [(0, 0), (4, 4), (5, 4)] [] (by rfl) ?_; focus ((conv => whnf); (repeat (refine And.intro ?_ ?_; rotate_left; (conv => whnf))); exact trivial; all_goals (try exact andT)))
        all_goals first | rfl | (simp [w]; done) | (exact rowsT) | skip
        refine RowsRen.cast (own_rows (i := 0 + (k : Int).toNat) hxk 4 5 (by simp)) ?_
        refine RowsRen.castR (b := (ps.take k).map (prg 4) ++ ([prg 4 (s, xs)] ++ (ps.drop (k + 1)).map (prt 0))) (by rw [parts_snoc (prg 4) hxk, List.append_assoc]) ?_
        refine RowsRen.app (parts_gg ?_ _) (RowsRen.app (row_gg ?_ (s, xs)) (parts_ll ?_ _)) <;> rfl
      · ((conv => whnf); (repeat' ((first | (with_reducible first | refine qif_n ?_ | refine qif_t ‹_› ?_ | refine qif_f ‹_› ?_) | ((with_reducible refine qif_t ?_ ?_); focus decide) | ((with_reducible refine qif_f ?_ ?_); focus decide) | (with_reducible refine And.intro (orderOk_i ?ho) ?_; (case ho => kernel_rfl)) | ((with_reducible refine qif_t ?_ ?_); focus (simp [hlt]; done)) | ((with_reducible refine qif_f ?_ ?_); focus (simp [hlt]; done)) | (with_reducible first | refine qif_i (fun _ => ?_) (fun _ => ?_) | refine frcVs_i ?_ | refine frcRs_i ?_)) <;> (conv => whnf))))
        have : k = ps.length := by omega
        subst this
        (refine qConv.of hB [] [(0, 0), (4, 2)] [(3, 1)] (by rfl) ?_; focus ((conv => whnf); (repeat (refine And.intro ?_ ?_; rotate_left; (conv => whnf))); exact trivial; all_goals (try exact andT)))
        all_goals first | rfl | (refine RowsRen.cast ?_ (parts_gg (r := 4) rfl ps); simp; exact List.take_of_length_le (by simp))
def mayStep (n e : Int) (p : Pt) : Bool := within p.1 4294967295 && (decide (p.2.length ≠ 0) && (decide (e < wdiff p.1 n) && (decide (p.2.length ≤ 2048) && decide (wdiff p.1 n ≤ 2048 - p.2.length))))
def mayGo (n : Int) : Int → List Pt → Bool
  | _, [] => true
  | e, p :: ps => mayStep n e p && mayGo n (wdiff p.1 n + p.2.length) ps
def mayB (n : Int) (ps : List Pt) : Bool := within n 4294967295 && (decide (ps.length ≤ 8) && mayGo n 0 ps)
theorem drop_cons {α : Type} {ps : List α} {k : Nat} {p : α} (h : ps[k]? = some p) : ps.drop k = p :: ps.drop (k + 1) := by
  have hk : k < ps.length := (List.getElem?_eq_some_iff.1 h).1
  rw [List.drop_eq_getElem_cons hk]; rw [List.getElem?_eq_getElem hk] at h; cases h; rfl
theorem mayGo_step {n e : Int} {ps : List Pt} {k : Nat} {p : Pt} {b : Bool} (h : ps[k]? = some p) (hg : mayGo n e (ps.drop k) = b) : (mayStep n e p && mayGo n (wdiff p.1 n + p.2.length) (ps.drop (k + 1))) = b := by
  rw [drop_cons h] at hg; exact hg
theorem may_l (n : Int) (ps : List Pt) (hp : PtsOk ps) : ACallL Tryz.prog 85 [.agg [.val (.int .i64 n), .list 0 2 (ps.map (prt 0))]] [.perm] (.val (.bool (mayB n ps))) [.perm] := by
  obtain ⟨hl, hb⟩ := hp
  have px := pl_parts ps
  have hlen : (ps.map (prt 0)).length = ps.length := by simp
  by_cases hn : within n 4294967295 = true
  · by_cases h8 : ps.length ≤ 8
    · obtain ⟨b, hg⟩ : ∃ b, mayGo n 0 ps = b := ⟨_, rfl⟩
      have hm : mayB n ps = b := by simp [mayB, hn, h8, hg]
      have h8' : ¬ (8 : Int) < ps.length := by omega
      rw [hm]
      refine ACallL.of_ev mixed Tryz.func85 rfl (fun a w => Tryz.call85 a w) (congrArg Array.toList Tryz.results85) Tryz.ntmps85 fun B hB => ?_
      ((conv => whnf); (repeat' ((first | (with_reducible first | refine qif_n ?_ | refine qif_t ‹_› ?_ | refine qif_f ‹_› ?_) | ((with_reducible refine qif_t ?_ ?_); focus decide) | ((with_reducible refine qif_f ?_ ?_); focus decide) | (with_reducible refine And.intro (orderOk_i ?ho) ?_; (case ho => kernel_rfl)) | ((with_reducible refine qif_t ?_ ?_); focus (simp [hn, hlen, h8']; done)) | ((with_reducible refine qif_f ?_ ?_); focus (simp [hn, hlen, h8']; done)) | (with_reducible first | refine qif_i (fun _ => ?_) (fun _ => ?_) | refine frcVs_i ?_ | refine frcRs_i ?_) | ((with_reducible refine qCall.pure (spanIs_l _) ?_ ?_ ?_ ?_); rotate_left 4; exact trivial; exact plT; exact plT)) <;> (conv => whnf))))
      refine qAW.loop mixed (X := Nat × Int) (fun x => slotsOf 64 [(1, .ptr 1 0 0), (3, .val (.int .i64 x.2)), (18, .list 0 2 (ps.map (prt 0))), (19, .val (.int .i64 ps.length)), (20, .val (.int .i64 x.1))]) (fun x => [.perm, .live ⟨2, 46, [[.val (.int .i64 n), .list 0 2 (ps.map (prt 0))]]⟩]) (fun x => x.1 ≤ ps.length ∧ mayGo n x.2 (ps.drop x.1) = b) (fun x => ps.length - x.1) (0, 0) ⟨Nat.zero_le _, hg⟩ ?_ ?_
      · (refine qConv.of hB [(1, 1)] [(0, 0)] [] (by rfl) ?_; focus ((conv => whnf); (repeat (refine And.intro ?_ ?_; rotate_left; (conv => whnf))); exact trivial; all_goals (try exact andT)))
        all_goals first | rfl | (exact rowsT) | (rw [hlen]; done)
      · rintro ⟨k, e⟩ ⟨hk, hgk⟩
        dsimp only at hk hgk ⊢
        by_cases hlt : k < ps.length
        · obtain ⟨⟨s, xs⟩, hxk⟩ : ∃ p, ps[k]? = some p := ⟨_, List.getElem?_eq_getElem hlt⟩
          have hx : xs.length ≤ 100000000 := hb _ (List.mem_of_getElem? hxk)
          have hrow : (ps.map (prt 0))[(k : Int).toNat]? = some [.val (.int .i64 s), bL 0 xs] := by simp [hxk]
          have w := IntWalk.i64_in (k + 1) (by omega)
          have hd := wdiff_bd s n
          have w2 := IntWalk.i64_in (2048 - xs.length) (by omega)
          have w3 := IntWalk.i64_in (wdiff s n + xs.length) (by omega)
          have hs := mayGo_step hxk hgk
          have lx : (xs.map bR).length = xs.length := by simp
          have pxs : PlRows (xs.map bR) := pl_bytes xs
          unfold mayStep at hs
          dsimp only at hs
          have hlt' : (k : Int) < ps.length := by omega
          ((conv => whnf); (repeat' ((first | (with_reducible first | refine qif_n ?_ | refine qif_t ‹_› ?_ | refine qif_f ‹_› ?_) | ((with_reducible refine qif_t ?_ ?_); focus decide) | ((with_reducible refine qif_f ?_ ?_); focus decide) | (with_reducible refine And.intro (orderOk_i ?ho) ?_; (case ho => kernel_rfl)) | ((with_reducible refine qif_t ?_ ?_); focus (simp [hlt']; done)) | ((with_reducible refine qif_f ?_ ?_); focus (simp [hlt']; done)) | (with_reducible first | refine qif_i (fun _ => ?_) (fun _ => ?_) | refine frcVs_i ?_ | refine frcRs_i ?_) | (refine qCase_i (idxL rfl rfl rfl rfl rfl rfl (by omega) hrow) ?_) | ((with_reducible refine qCall.pure (spanDiff_l _ _) ?_ ?_ ?_ ?_); rotate_left 4; exact trivial; exact plT; exact plT) | ((with_reducible refine qCall.pure (spanIs_l _) ?_ ?_ ?_ ?_); rotate_left 4; exact trivial; exact plT; exact plT)) <;> (conv => whnf))))
          all_goals simp only [lx, w2, w3, decide_eq_true_eq, decide_eq_false_iff_not, beq_iff_eq, beq_eq_false_iff_ne] at *
          all_goals first
            | ((refine qConv.of hB [] [(0, 0)] [] (by rfl) ?_; focus ((conv => whnf); (repeat (refine And.intro ?_ ?_; rotate_left; (conv => whnf))); exact trivial; all_goals (try exact andT)))
               rw [← hs]; congr 2; symm; rw [Bool.eq_false_iff]; intro hh; simp only [Bool.and_eq_true, decide_eq_true_eq] at hh; obtain ⟨⟨h1, h2, h3, h4, h5⟩, _⟩ := hh; first | omega | (simp_all; done))
            | (refine ⟨(k + 1, wdiff s n + xs.length), ⟨by dsimp only; omega, ?_⟩, by dsimp only; omega, ?_⟩
               · rw [← hs]; symm
                 rw [Bool.and_eq_right_iff_imp]
                 intro _
                 simp only [Bool.and_eq_true, decide_eq_true_eq]
                 exact ⟨by assumption, by omega, by omega, by omega, by omega⟩
               · (refine qConv.of hB [(1, 1)] [(0, 0)] [] (by rfl) ?_; focus ((conv => whnf); (repeat (refine And.intro ?_ ?_; rotate_left; (conv => whnf))); exact trivial; all_goals (try exact andT)))
                 all_goals first | rfl | (exact rowsT) | (simp [w]; done) | (rw [lx, w3]; done) | (simp [w3]; done))
        · ((conv => whnf); (repeat' ((first | (with_reducible first | refine qif_n ?_ | refine qif_t ‹_› ?_ | refine qif_f ‹_› ?_) | ((with_reducible refine qif_t ?_ ?_); focus decide) | ((with_reducible refine qif_f ?_ ?_); focus decide) | (with_reducible refine And.intro (orderOk_i ?ho) ?_; (case ho => kernel_rfl)) | ((with_reducible refine qif_t ?_ ?_); focus (simp [hlt]; done)) | ((with_reducible refine qif_f ?_ ?_); focus (simp [hlt]; done)) | (with_reducible first | refine qif_i (fun _ => ?_) (fun _ => ?_) | refine frcVs_i ?_ | refine frcRs_i ?_)) <;> (conv => whnf))))
          have : k = ps.length := by omega
          subst this
          (refine qConv.of hB [] [(0, 0)] [] (by rfl) ?_; focus ((conv => whnf); (repeat (refine And.intro ?_ ?_; rotate_left; (conv => whnf))); exact trivial; all_goals (try exact andT)))
          all_goals first | rfl | (rw [← hgk]; simp [mayGo])
    · have h8' : (8 : Int) < ps.length := by omega
      have hm : mayB n ps = false := by simp [mayB, hn, h8]
      rw [hm]
      refine ACallL.of_ev mixed Tryz.func85 rfl (fun a w => Tryz.call85 a w) (congrArg Array.toList Tryz.results85) Tryz.ntmps85 fun B hB => ?_
      ((conv => whnf); (repeat' ((first | (with_reducible first | refine qif_n ?_ | refine qif_t ‹_› ?_ | refine qif_f ‹_› ?_) | ((with_reducible refine qif_t ?_ ?_); focus decide) | ((with_reducible refine qif_f ?_ ?_); focus decide) | (with_reducible refine And.intro (orderOk_i ?ho) ?_; (case ho => kernel_rfl)) | ((with_reducible refine qif_t ?_ ?_); focus (simp [hn, hlen, h8']; done)) | ((with_reducible refine qif_f ?_ ?_); focus (simp [hn, hlen, h8']; done)) | (with_reducible first | refine qif_i (fun _ => ?_) (fun _ => ?_) | refine frcVs_i ?_ | refine frcRs_i ?_) | ((with_reducible refine qCall.pure (spanIs_l _) ?_ ?_ ?_ ?_); rotate_left 4; exact trivial; exact plT; exact plT)) <;> (conv => whnf))))
      all_goals (refine qConv.of hB [] [(0, 0)] [] (by rfl) ?_; focus ((conv => whnf); (repeat (refine And.intro ?_ ?_; rotate_left; (conv => whnf))); exact trivial; all_goals (try exact andT)))
      all_goals rfl
  · have hn : within n 4294967295 = false := by simpa using hn
    have hm : mayB n ps = false := by simp [mayB, hn]
    rw [hm]
    refine ACallL.of_ev mixed Tryz.func85 rfl (fun a w => Tryz.call85 a w) (congrArg Array.toList Tryz.results85) Tryz.ntmps85 fun B hB => ?_
    ((conv => whnf); (repeat' ((first | (with_reducible first | refine qif_n ?_ | refine qif_t ‹_› ?_ | refine qif_f ‹_› ?_) | ((with_reducible refine qif_t ?_ ?_); focus decide) | ((with_reducible refine qif_f ?_ ?_); focus decide) | (with_reducible refine And.intro (orderOk_i ?ho) ?_; (case ho => kernel_rfl)) | ((with_reducible refine qif_t ?_ ?_); focus (simp [hn]; done)) | ((with_reducible refine qif_f ?_ ?_); focus (simp [hn]; done)) | (with_reducible first | refine qif_i (fun _ => ?_) (fun _ => ?_) | refine frcVs_i ?_ | refine frcRs_i ?_) | ((with_reducible refine qCall.pure (spanIs_l _) ?_ ?_ ?_ ?_); rotate_left 4; exact trivial; exact plT; exact plT)) <;> (conv => whnf))))
    all_goals (refine qConv.of hB [] [(0, 0)] [] (by rfl) ?_; focus ((conv => whnf); (repeat (refine And.intro ?_ ?_; rotate_left; (conv => whnf))); exact trivial; all_goals (try exact andT)))
    all_goals rfl
theorem woff_eq (a b : Int) : woff a b = if wdiff a b < 0 then wdiff a b + 4294967296 else wdiff a b := by
  unfold woff wdiff
  split <;> omega
theorem refBuffer_l (n : Int) (ps : List Pt) (hp : PtsOk ps) : ACallL Tryz.prog 47 [.agg [.val (.int .i64 n), .list 0 2 (ps.map (prt 0))]] [.perm] (.val (.bool (mayB n ps))) [.perm] := by
  obtain ⟨hl, hb⟩ := hp
  have px := pl_parts ps
  have hlen : (ps.map (prt 0)).length = ps.length := by simp
  by_cases hn : within n 4294967295 = true
  · by_cases h8 : ps.length ≤ 8
    · obtain ⟨b, hg⟩ : ∃ b, mayGo n 0 ps = b := ⟨_, rfl⟩
      have hm : mayB n ps = b := by simp [mayB, hn, h8, hg]
      have h8' : ¬ (8 : Int) < ps.length := by omega
      rw [hm]
      refine ACallL.of_ev mixed Tryz.func47 rfl (fun a w => Tryz.call47 a w) (congrArg Array.toList Tryz.results47) Tryz.ntmps47 fun B hB => ?_
      ((conv => whnf); (repeat' ((first | (with_reducible first | refine qif_n ?_ | refine qif_t ‹_› ?_ | refine qif_f ‹_› ?_) | ((with_reducible refine qif_t ?_ ?_); focus decide) | ((with_reducible refine qif_f ?_ ?_); focus decide) | (with_reducible refine And.intro (orderOk_i ?ho) ?_; (case ho => kernel_rfl)) | ((with_reducible refine qif_t ?_ ?_); focus (simp [hn, hlen, h8']; done)) | ((with_reducible refine qif_f ?_ ?_); focus (simp [hn, hlen, h8']; done)) | (with_reducible first | refine qif_i (fun _ => ?_) (fun _ => ?_) | refine frcVs_i ?_ | refine frcRs_i ?_) | ((with_reducible refine qCall.pure (refWord_l _) ?_ ?_ ?_ ?_); rotate_left 4; exact trivial; exact plT; exact plT)) <;> (conv => whnf))))
      refine qAW.loop mixed (X := Nat × Int) (fun x => slotsOf 70 [(1, .ptr 1 0 0), (3, .val (.int .i64 x.2)), (4, .val (.int .i64 x.1))]) (fun x => [.perm, .live ⟨2, 46, [[.val (.int .i64 n), .list 0 2 (ps.map (prt 0))]]⟩]) (fun x => (x.1 ≤ ps.length ∧ 0 ≤ x.2) ∧ mayGo n x.2 (ps.drop x.1) = b) (fun x => ps.length - x.1) (0, 0) ⟨⟨Nat.zero_le _, Int.le_refl _⟩, hg⟩ ?_ ?_
      · (refine qConv.of hB [(1, 1)] [(0, 0)] [] (by rfl) ?_; focus ((conv => whnf); (repeat (refine And.intro ?_ ?_; rotate_left; (conv => whnf))); exact trivial; all_goals (try exact andT)))
        all_goals first | rfl | (exact rowsT) | (rw [hlen]; done)
      · rintro ⟨k, e⟩ ⟨⟨hk, he⟩, hgk⟩
        dsimp only at hk hgk he ⊢
        by_cases hlt : k < ps.length
        · obtain ⟨⟨s, xs⟩, hxk⟩ : ∃ p, ps[k]? = some p := ⟨_, List.getElem?_eq_getElem hlt⟩
          have hx : xs.length ≤ 100000000 := hb _ (List.mem_of_getElem? hxk)
          have hrow : (ps.map (prt 0))[(k : Int).toNat]? = some [.val (.int .i64 s), bL 0 xs] := by simp [hxk]
          have w := IntWalk.i64_in (k + 1) (by omega)
          have hd := wdiff_bd s n
          have ho := woff_eq s n
          have hob := woff_bd s n
          have w2 := IntWalk.i64_in (2048 - woff s n) (by omega)
          have w3 := IntWalk.i64_in (woff s n + xs.length) (by omega)
          have hs := mayGo_step hxk hgk
          have lx : (xs.map bR).length = xs.length := by simp
          have pxs : PlRows (xs.map bR) := pl_bytes xs
          unfold mayStep at hs
          dsimp only at hs
          have hlt' : (k : Int) < ps.length := by omega
          ((conv => whnf); (repeat' ((first | (with_reducible first | refine qif_n ?_ | refine qif_t ‹_› ?_ | refine qif_f ‹_› ?_) | ((with_reducible refine qif_t ?_ ?_); focus decide) | ((with_reducible refine qif_f ?_ ?_); focus decide) | (with_reducible refine And.intro (orderOk_i ?ho) ?_; (case ho => kernel_rfl)) | ((with_reducible refine qif_t ?_ ?_); focus (simp [hlen, hlt']; done)) | ((with_reducible refine qif_f ?_ ?_); focus (simp [hlen, hlt']; done)) | (with_reducible first | refine qif_i (fun _ => ?_) (fun _ => ?_) | refine frcVs_i ?_ | refine frcRs_i ?_) | (refine qCase_i (idxL rfl rfl rfl rfl rfl rfl (by omega) hrow) ?_) | ((with_reducible refine qCall.pure (refOff_l _ _) ?_ ?_ ?_ ?_); rotate_left 4; exact trivial; exact plT; exact plT) | ((with_reducible refine qCall.pure (refWord_l _) ?_ ?_ ?_ ?_); rotate_left 4; exact trivial; exact plT; exact plT)) <;> (conv => whnf))))
          all_goals simp only [lx, w2, w3, decide_eq_true_eq, decide_eq_false_iff_not, beq_iff_eq, beq_eq_false_iff_ne] at *
          all_goals first
            | ((refine qConv.of hB [] [(0, 0)] [] (by rfl) ?_; focus ((conv => whnf); (repeat (refine And.intro ?_ ?_; rotate_left; (conv => whnf))); exact trivial; all_goals (try exact andT)))
               rw [← hs]; congr 2; symm; rw [Bool.eq_false_iff]; intro hh; simp only [Bool.and_eq_true, decide_eq_true_eq] at hh; obtain ⟨⟨h1, h2, h3, h4, h5⟩, _⟩ := hh; (split at ho); all_goals first | omega | (simp_all; done))
            | (have e1 : woff s n = wdiff s n := by split at ho <;> omega
               refine ⟨(k + 1, wdiff s n + xs.length), ⟨⟨by dsimp only; omega, by dsimp only; omega⟩, ?_⟩, by dsimp only; omega, ?_⟩
               · rw [← hs]; symm
                 rw [Bool.and_eq_right_iff_imp]
                 intro _
                 simp only [Bool.and_eq_true, decide_eq_true_eq]
                 exact ⟨by assumption, by omega, by omega, by omega, by omega⟩
               · (refine qConv.of hB [(1, 1)] [(0, 0)] [] (by rfl) ?_; focus ((conv => whnf); (repeat (refine And.intro ?_ ?_; rotate_left; (conv => whnf))); exact trivial; all_goals (try exact andT)))
                 all_goals first | rfl | (exact rowsT) | (simp [w]; done) | (rw [lx, w3, e1]; done) | (simp [w3, e1]; done))
        · ((conv => whnf); (repeat' ((first | (with_reducible first | refine qif_n ?_ | refine qif_t ‹_› ?_ | refine qif_f ‹_› ?_) | ((with_reducible refine qif_t ?_ ?_); focus decide) | ((with_reducible refine qif_f ?_ ?_); focus decide) | (with_reducible refine And.intro (orderOk_i ?ho) ?_; (case ho => kernel_rfl)) | ((with_reducible refine qif_t ?_ ?_); focus (simp [hlen, hlt]; done)) | ((with_reducible refine qif_f ?_ ?_); focus (simp [hlen, hlt]; done)) | (with_reducible first | refine qif_i (fun _ => ?_) (fun _ => ?_) | refine frcVs_i ?_ | refine frcRs_i ?_)) <;> (conv => whnf))))
          have : k = ps.length := by omega
          subst this
          (refine qConv.of hB [] [(0, 0)] [] (by rfl) ?_; focus ((conv => whnf); (repeat (refine And.intro ?_ ?_; rotate_left; (conv => whnf))); exact trivial; all_goals (try exact andT)))
          all_goals first | rfl | (rw [← hgk]; simp [mayGo])
    · have h8' : (8 : Int) < ps.length := by omega
      have hm : mayB n ps = false := by simp [mayB, hn, h8]
      rw [hm]
      refine ACallL.of_ev mixed Tryz.func47 rfl (fun a w => Tryz.call47 a w) (congrArg Array.toList Tryz.results47) Tryz.ntmps47 fun B hB => ?_
      ((conv => whnf); (repeat' ((first | (with_reducible first | refine qif_n ?_ | refine qif_t ‹_› ?_ | refine qif_f ‹_› ?_) | ((with_reducible refine qif_t ?_ ?_); focus decide) | ((with_reducible refine qif_f ?_ ?_); focus decide) | (with_reducible refine And.intro (orderOk_i ?ho) ?_; (case ho => kernel_rfl)) | ((with_reducible refine qif_t ?_ ?_); focus (simp [hn, hlen, h8']; done)) | ((with_reducible refine qif_f ?_ ?_); focus (simp [hn, hlen, h8']; done)) | (with_reducible first | refine qif_i (fun _ => ?_) (fun _ => ?_) | refine frcVs_i ?_ | refine frcRs_i ?_) | ((with_reducible refine qCall.pure (refWord_l _) ?_ ?_ ?_ ?_); rotate_left 4; exact trivial; exact plT; exact plT)) <;> (conv => whnf))))
      all_goals (refine qConv.of hB [] [(0, 0)] [] (by rfl) ?_; focus ((conv => whnf); (repeat (refine And.intro ?_ ?_; rotate_left; (conv => whnf))); exact trivial; all_goals (try exact andT)))
      all_goals rfl
  · have hn : within n 4294967295 = false := by simpa using hn
    have hm : mayB n ps = false := by simp [mayB, hn]
    rw [hm]
    refine ACallL.of_ev mixed Tryz.func47 rfl (fun a w => Tryz.call47 a w) (congrArg Array.toList Tryz.results47) Tryz.ntmps47 fun B hB => ?_
    ((conv => whnf); (repeat' ((first | (with_reducible first | refine qif_n ?_ | refine qif_t ‹_› ?_ | refine qif_f ‹_› ?_) | ((with_reducible refine qif_t ?_ ?_); focus decide) | ((with_reducible refine qif_f ?_ ?_); focus decide) | (with_reducible refine And.intro (orderOk_i ?ho) ?_; (case ho => kernel_rfl)) | ((with_reducible refine qif_t ?_ ?_); focus (simp [hn]; done)) | ((with_reducible refine qif_f ?_ ?_); focus (simp [hn]; done)) | (with_reducible first | refine qif_i (fun _ => ?_) (fun _ => ?_) | refine frcVs_i ?_ | refine frcRs_i ?_) | ((with_reducible refine qCall.pure (refWord_l _) ?_ ?_ ?_ ?_); rotate_left 4; exact trivial; exact plT; exact plT)) <;> (conv => whnf))))
    all_goals (refine qConv.of hB [] [(0, 0)] [] (by rfl) ?_; focus ((conv => whnf); (repeat (refine And.intro ?_ ?_; rotate_left; (conv => whnf))); exact trivial; all_goals (try exact andT)))
    all_goals rfl
end Go.Proofs.YtceohcbokbalhaaGreat

/- The reassembler's window on data. No condition but lengths. -/
namespace Go.Proofs.YtceohcbokbalhaaGreat
open Go.RowKit
set_option linter.unusedVariables false
set_option linter.unusedSimpArgs false
set_option maxRecDepth 100000
set_option maxHeartbeats 4000000
def lay1 (w : List (Option Int)) (i : Nat) (c : Int) : List (Option Int) := match w[i]? with | some none => w.set i (some c) | _ => w
def layW (w : List (Option Int)) (i : Nat) : List Int → List (Option Int)
  | [] => w
  | c :: cs => layW (lay1 w i c) (i + 1) cs
theorem lay1_len (w : List (Option Int)) (i : Nat) (c : Int) : (lay1 w i c).length = w.length := by
  unfold lay1; split <;> simp
theorem layW_len : ∀ (cs : List Int) (w : List (Option Int)) (i : Nat), (layW w i cs).length = w.length
  | [], w, i => rfl
  | c :: cs, w, i => by rw [layW, layW_len cs, lay1_len]
def PtsIn (n : Int) (ps : List Pt) : Prop := ∀ p ∈ ps, 0 ≤ wdiff p.1 n ∧ wdiff p.1 n + p.2.length ≤ 2048
def layP (n : Int) (w : List (Option Int)) (ps : List Pt) : List (Option Int) := ps.foldl (fun w p => layW w (wdiff p.1 n).toNat p.2) w
theorem layP_len (n : Int) : ∀ (ps : List Pt) (w : List (Option Int)), (layP n w ps).length = w.length
  | [], w => rfl
  | p :: ps, w => by
    have := layP_len n ps (layW w (wdiff p.1 n).toNat p.2)
    rw [layW_len] at this
    exact this
def win0 : List (Option Int) := List.replicate 2048 none
theorem win0_len : win0.length = 2048 := by simp [win0]
attribute [irreducible] win0
end Go.Proofs.YtceohcbokbalhaaGreat

/- The runs of a window: plain law. No condition. -/
namespace Go.Proofs.YtceohcbokbalhaaGreat
open Go.RowKit
set_option linter.unusedVariables false
set_option linter.unusedSimpArgs false
abbrev Win := List (Option Int)
def isS (w : Win) (i : Nat) : Bool := (w.getD i none).isSome
def vals (w : Win) : List Int := w.map fun o => o.getD 0
def seg (w : Win) (j m : Nat) : List Int := ((vals w).drop j).take (m - j)
def addLast (c : Int) : List Pt → List Pt
  | [] => []
  | [p] => [(p.1, p.2 ++ [c])]
  | p :: q :: l => p :: addLast c (q :: l)
theorem addLast_snoc (c : Int) (p : Pt) : ∀ l : List Pt, addLast c (l ++ [p]) = l ++ [(p.1, p.2 ++ [c])]
  | [] => rfl
  | [q] => rfl
  | q :: r :: l => by
    have := addLast_snoc c p (r :: l)
    simp only [List.cons_append] at this ⊢
    rw [addLast, this]
def runsT (nx : Int) (w : Win) (t : Nat) : Nat → List Pt
  | 0 => []
  | n + 1 => if n < t then [] else if isS w n then (if t < n ∧ isS w (n - 1) then addLast ((vals w).getD n 0) (runsT nx w t n) else runsT nx w t n ++ [(wadd nx n, [(vals w).getD n 0])]) else runsT nx w t n
theorem runsT_le (nx : Int) (w : Win) (t : Nat) : ∀ n, n ≤ t → runsT nx w t n = []
  | 0, _ => rfl
  | n + 1, h => by rw [runsT, if_pos (by omega)]
theorem runsT_no {nx : Int} {w : Win} {t n : Nat} (h : isS w n = false) : runsT nx w t (n + 1) = runsT nx w t n := by
  rw [runsT]
  split
  · rw [runsT_le nx w t n (by omega)]
  · simp [h]
theorem runsT_y1 {nx : Int} {w : Win} {t n : Nat} (ht : t < n) (hs : isS w n = true) (hp : isS w (n - 1) = true) : runsT nx w t (n + 1) = addLast ((vals w).getD n 0) (runsT nx w t n) := by
  rw [runsT, if_neg (by omega), hs, if_pos rfl, if_pos ⟨ht, hp⟩]
theorem runsT_y2 {nx : Int} {w : Win} {t n : Nat} (ht : t ≤ n) (hs : isS w n = true) (hp : t = n ∨ isS w (n - 1) = false) : runsT nx w t (n + 1) = runsT nx w t n ++ [(wadd nx n, [(vals w).getD n 0])] := by
  rw [runsT, if_neg (by omega), hs, if_pos rfl, if_neg (by rintro ⟨h1, h2⟩; rcases hp with h | h; omega; rw [h] at h2; cases h2)]
theorem vals_len (w : Win) : (vals w).length = w.length := by simp [vals]
theorem seg_one {w : Win} {j : Nat} (h : j < w.length) : seg w j (j + 1) = [(vals w).getD j 0] := by
  have h' : j < (vals w).length := by rw [vals_len]; exact h
  unfold seg
  rw [show j + 1 - j = 0 + 1 by omega, List.drop_eq_getElem_cons h', List.take_succ_cons, List.take_zero]
  simp [List.getD, h']
theorem seg_snoc {w : Win} {j m : Nat} (hj : j ≤ m) (h : m < w.length) : seg w j (m + 1) = seg w j m ++ [(vals w).getD m 0] := by
  have h' : m < (vals w).length := by rw [vals_len]; exact h
  unfold seg
  rw [show m + 1 - j = (m - j) + 1 by omega, List.take_add_one]
  congr 1
  rw [List.getElem?_drop, show j + (m - j) = m by omega]
  simp [List.getD, h']
theorem runsT_run {nx : Int} {w : Win} {t j : Nat} (ht : t ≤ j) (hb : j = t ∨ isS w (j - 1) = false) : ∀ m, j < m → m ≤ w.length → (∀ i, j ≤ i → i < m → isS w i = true) → runsT nx w t m = runsT nx w t j ++ [(wadd nx j, seg w j m)]
  | 0, h, _, _ => by omega
  | m + 1, h, hl, hs => by
    rw [runsT, if_neg (by omega), hs m (by omega) (by omega), if_pos rfl]
    by_cases e : m = j
    · subst e
      rw [if_neg (by rintro ⟨h1, h2⟩; rcases hb with rfl | hb; omega; rw [hb] at h2; cases h2), seg_one (by omega)]
    · rw [if_pos ⟨by omega, hs (m - 1) (by omega) (by omega)⟩, runsT_run ht hb m (by omega) (by omega) (fun i h1 h2 => hs i h1 (by omega)), addLast_snoc, seg_snoc (by omega) (by omega)]
theorem runsT_ne {nx : Int} {w : Win} {t n : Nat} (ht : t ≤ n) (hs : isS w n = true) : runsT nx w t (n + 1) ≠ [] := by
  rw [runsT, if_neg (by omega), hs, if_pos rfl]
  split
  · rename_i h
    obtain ⟨h1, h2⟩ := h
    have := runsT_ne (nx := nx) (t := t) (n := n - 1) (by omega) h2
    rw [show n - 1 + 1 = n by omega] at this
    obtain ⟨l, p, e⟩ : ∃ l p, runsT nx w t n = l ++ [p] := ⟨_, _, (List.dropLast_concat_getLast this).symm⟩
    rw [e, addLast_snoc]
    simp
  · simp
termination_by n
decreasing_by omega
end Go.Proofs.YtceohcbokbalhaaGreat

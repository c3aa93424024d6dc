/- Contracts and plain laws, one behind the other: AhParts, AhReasm, AhFill, AhRuns. Conditions are said at each. -/
import Derived.Test.YtceohcbokbalhaaPkAA
/- Pieces of a stream on data: copied, compared. No condition but lengths. -/
namespace Go.Proofs.Ytceohcbokbalhaa
open Go.RowKit
set_option linter.unusedVariables false
set_option linter.unusedSimpArgs false
set_option maxRecDepth 100000
set_option maxHeartbeats 4000000
def Cells (q : Rn) (h : Hp) (l l' : List AV) : Prop := l.length = l'.length ∧ ∀ (j : Nat) (c c' : AV), l[j]? = some c → l'[j]? = some c' → Ren q h c c'
theorem Cells.nil {q : Rn} {h : Hp} : Cells q h [] [] := ⟨rfl, by simp⟩
theorem Cells.cons {q : Rn} {h : Hp} {a a' : AV} {l l' : List AV} (h1 : Ren q h a a') (h2 : Cells q h l l') : Cells q h (a :: l) (a' :: l') := by
  refine ⟨by simp [h2.1], fun j c c' x y => ?_⟩
  rcases j with _ | j
  · simp at x y; subst x y; exact h1
  · exact h2.2 j c c' (by simpa using x) (by simpa using y)
theorem RowsRen.mapF {α : Type} {q : Rn} {h : Hp} (l : List α) (f g : α → List AV) (H : ∀ x ∈ l, Cells q h (f x) (g x)) : RowsRen q h (l.map f) (l.map g) := by
  refine ⟨by simp, fun i row row' a b => ?_, fun i j row row' c c' a b d e => ?_⟩
  · simp only [List.getElem?_map, Option.map_eq_some_iff] at a b
    obtain ⟨x, hx, rfl⟩ := a
    obtain ⟨y, hy, rfl⟩ := b
    rw [hx] at hy; cases hy
    exact (H x (List.mem_of_getElem? hx)).1
  · simp only [List.getElem?_map, Option.map_eq_some_iff] at a b
    obtain ⟨x, hx, rfl⟩ := a
    obtain ⟨y, hy, rfl⟩ := b
    rw [hx] at hy; cases hy
    exact (H x (List.mem_of_getElem? hx)).2 j c c' d e
theorem RowsRen.app {q : Rn} {h : Hp} {a a' b b' : List (List AV)} (h1 : RowsRen q h a a') (h2 : RowsRen q h b b') : RowsRen q h (a ++ b) (a' ++ b') := by
  have hl := h1.1
  refine ⟨by simp [h1.1, h2.1], fun i row row' x y => ?_, fun i j row row' c c' x y d e => ?_⟩
  · rcases Nat.lt_or_ge i a.length with hi | hi
    · rw [List.getElem?_append_left hi] at x; rw [List.getElem?_append_left (by omega)] at y
      exact h1.2.1 i row row' x y
    · rw [List.getElem?_append_right hi] at x; rw [List.getElem?_append_right (by omega), ← hl] at y
      exact h2.2.1 _ row row' x y
  · rcases Nat.lt_or_ge i a.length with hi | hi
    · rw [List.getElem?_append_left hi] at x; rw [List.getElem?_append_left (by omega)] at y
      exact h1.2.2 i j row row' c c' x y d e
    · rw [List.getElem?_append_right hi] at x; rw [List.getElem?_append_right (by omega), ← hl] at y
      exact h2.2.2 _ j row row' c c' x y d e
theorem RowsRen.one {q : Rn} {h : Hp} {a b : List AV} (H : Cells q h a b) : RowsRen q h [a] [b] := by
  simpa using RowsRen.mapF (q := q) (h := h) [()] (fun _ => a) (fun _ => b) fun _ _ => H
theorem Ren.sl1 {L I F : Prs} {h : Hp} {b b' i n : Nat} (h0 : L.has b b' = true) : Ren (qOf L I F) h (.sl b i n) (.sl b' i n) := .sl _ _ _ _ ((Prs.has_iff L b b').1 h0)
theorem Ren.ptr1 {L I F : Prs} {h : Hp} {b b' i n : Nat} (h0 : L.has b b' = true) : Ren (qOf L I F) h (.ptr b i n) (.ptr b' i n) := .ptr _ _ _ _ ((Prs.has_iff L b b').1 h0)
theorem RowsRen.cast {q : Rn} {h : Hp} {a b c : List (List AV)} (e : a = b) (H : RowsRen q h b c) : RowsRen q h a c := e ▸ H
theorem RowsRen.castR {q : Rn} {h : Hp} {a b c : List (List AV)} (e : b = c) (H : RowsRen q h a b) : RowsRen q h a c := e ▸ H
theorem bytes_cells {q : Rn} {h : Hp} (xs : List Int) : RowsRen q h (xs.map bR) (xs.map bR) :=
  RowsRen.mapF xs bR bR fun x _ => ⟨rfl, fun j c c' a b => by rw [a] at b; cases b; rcases j with _ | j <;> simp at a; subst a; exact .val _⟩
theorem Ren.gg {L I F : Prs} {h : Hp} {r r' : Nat} (h0 : I.has r r' = true) (xs : List Int) : Ren (qOf L I F) h (gL r xs) (gL r' xs) := by
  obtain ⟨a, b, c⟩ := bytes_cells (q := qOf L I F) (h := h) xs
  exact .glist _ _ _ _ _ ((Prs.has_iff I r r').1 h0) a b c
theorem Ren.ll {L I F : Prs} {h : Hp} {r r' : Nat} (h0 : I.has r r' = true) (xs : List Int) : Ren (qOf L I F) h (bL r xs) (bL r' xs) := by
  obtain ⟨a, b, c⟩ := bytes_cells (q := qOf L I F) (h := h) xs
  exact .list _ _ _ _ _ ((Prs.has_iff I r r').1 h0) a b c
theorem Ren.g2 {L I F : Prs} {h : Hp} {r r' : Nat} (h0 : I.has r r' = true) (xs : List Int) : Ren (qOf L I F) h (gL r xs) (bL r' xs) := .gl _ _ _ _ (Ren.ll h0 xs)
abbrev Pt := Int × List Int
abbrev prt (r : Nat) (p : Pt) : List AV := [.val (.int .i64 p.1), bL r p.2]
abbrev prg (r : Nat) (p : Pt) : List AV := [.val (.int .i64 p.1), gL r p.2]
theorem parts_gg {L I F : Prs} {h : Hp} {r r' : Nat} (h0 : I.has r r' = true) (ps : List Pt) : RowsRen (qOf L I F) h (ps.map (prg r)) (ps.map (prg r')) :=
  RowsRen.mapF ps _ _ fun p _ => .cons (.val _) (.cons (Ren.gg h0 p.2) .nil)
theorem parts_g2 {L I F : Prs} {h : Hp} {r r' : Nat} (h0 : I.has r r' = true) (ps : List Pt) : RowsRen (qOf L I F) h (ps.map (prg r)) (ps.map (prt r')) :=
  RowsRen.mapF ps _ _ fun p _ => .cons (.val _) (.cons (Ren.g2 h0 p.2) .nil)
theorem parts_ll {L I F : Prs} {h : Hp} {r r' : Nat} (h0 : I.has r r' = true) (ps : List Pt) : RowsRen (qOf L I F) h (ps.map (prt r)) (ps.map (prt r')) :=
  RowsRen.mapF ps _ _ fun p _ => .cons (.val _) (.cons (Ren.ll h0 p.2) .nil)
theorem row_gg {L I F : Prs} {h : Hp} {r r' : Nat} (h0 : I.has r r' = true) (p : Pt) : RowsRen (qOf L I F) h [prg r p] [prg r' p] := parts_gg h0 [p]
theorem parts_snoc {α : Type} {ps : List Pt} {k : Nat} {p : Pt} (f : Pt → α) (h : ps[k]? = some p) : (ps.take (k + 1)).map f = (ps.take k).map f ++ [f p] := by
  rw [take_snoc h]; simp
theorem pl_parts (ps : List Pt) : PlRows (ps.map (prt 0)) := PlRows.mapF ps _ fun x _ => plT
def PtsOk (ps : List Pt) : Prop := ps.length ≤ 100000000 ∧ ∀ p ∈ ps, p.2.length ≤ 100000000
end Go.Proofs.Ytceohcbokbalhaa

/- The reassembler's small functions on data. No condition but lengths. -/
namespace Go.Proofs.Ytceohcbokbalhaa
open Go.RowKit
set_option linter.unusedVariables false
set_option linter.unusedSimpArgs false
set_option maxRecDepth 100000
set_option maxHeartbeats 4000000
theorem ones_prt (r : Nat) (ps : List Pt) : (ps.map (prt r)).all (fun r => r.all AV.one) = true := by simp [AV.one, Value.oneCell']
theorem cloneP_l (p : Pt) (ps : List Pt) (hp : PtsOk (p :: ps)) : ACallL Try.prog 89 [.list 0 2 ((p :: ps).map (prt 0))] [.perm] (.sl 1 0 (ps.length + 1)) [.perm, .live ⟨2, 87, (p :: ps).map (prt 0)⟩] := by
  have hl := hp.1
  refine ACallL.of_ev mixed Try.func89 rfl (fun a w => Try.call89 a w) (congrArg Array.toList Try.results89) Try.ntmps89 fun B hB => ?_
  ((conv => whnf); (repeat' ((first | (with_reducible first | refine qif_n ?_ | refine qif_t ‹_› ?_ | refine qif_f ‹_› ?_) | ((with_reducible refine qif_t ?_ ?_); focus decide) | ((with_reducible refine qif_f ?_ ?_); focus decide) | (with_reducible refine And.intro (orderOk_i ?ho) ?_; (case ho => kernel_rfl)) | (with_reducible first | refine qif_i (fun _ => ?_) (fun _ => ?_) | refine frcVs_i ?_ | refine frcRs_i ?_) | (refine qOpen.nilF rfl rfl rfl rfl rfl ?_) | (refine qCase_i (apS (nb := 32) rfl rfl rfl rfl rfl rfl rfl rfl rfl rfl (by decide) (ones_prt 0 (_ :: _)) ⟨rfl, rfl, rfl⟩ rfl (by simp at hl ⊢; omega)) ?_)) <;> (conv => whnf))))
  (refine qConv.of hB [(2, 1)] [(0, 0)] [] (by rfl) ?_; focus ((conv => whnf); (repeat (refine And.intro ?_ ?_; rotate_left; (conv => whnf))); exact trivial; all_goals (try exact andT)))
  all_goals first | rfl | exact parts_ll rfl _ | (simp; done)
theorem cloneP_nil : ACallL Try.prog 89 [.list 0 2 []] [.perm] (.glist 1 2 []) [.perm, .uniq] := by
  refine ACallL.of_calls (fun a w => Try.call89 a w) fun m w vs rel hl => ?_
  obtain ⟨v, rfl⟩ : ∃ v, vs = #[v] := by
    obtain ⟨vs⟩ := vs
    match vs, hl.1 with
    | [v], _ => exact ⟨v, rfl⟩
  have hR := hl.2 0 _ v rfl rfl
  clear hl
  have he := fun (w : World) (a : Option Addr) (n c : Nat) => Lib.run_eql_slice_nil (P := Try.prog) w 44 87 a n c 0 0 Try.underlying44
  rcases R.nil_inv (h := ofL [.perm]) (r := 0) trivial hR with rfl | ⟨a, cap, rfl⟩
  · clear hR rel
    go_enter Try.func89, Try.ntmps89
    go_wp2
    go_ret
    exact ⟨_, rfl, (by repeat (first | (with_reducible exact Below.refl _ _) | (with_reducible assumption) | ((with_reducible refine Below.alloc ?_ ?_ _); rotate_left; focus (first | (simp; done) | (simp; omega) | omega)) | ((with_reducible refine Below.setCell ?_ ?_ _); rotate_left; focus (first | (simp; done) | (simp; omega) | omega)) | (with_reducible refine Below.drew ?_) | ((with_reducible apply Below.then); rotate_left; (with_reducible assumption)))), fun m' => .gnil _ _⟩
  · clear hR rel
    go_enter Try.func89, Try.ntmps89
    go_wp2
    go_ret
    exact ⟨_, rfl, (by repeat (first | (with_reducible exact Below.refl _ _) | (with_reducible assumption) | ((with_reducible refine Below.alloc ?_ ?_ _); rotate_left; focus (first | (simp; done) | (simp; omega) | omega)) | ((with_reducible refine Below.setCell ?_ ?_ _); rotate_left; focus (first | (simp; done) | (simp; omega) | omega)) | (with_reducible refine Below.drew ?_) | ((with_reducible apply Below.then); rotate_left; (with_reducible assumption)))), fun m' => .gemp _ _ _ trivial⟩
theorem own_rows {ps : List Pt} {k i : Nat} {p : Pt} (h : ps[k]? = some p) (r r' : Nat) (hi : i = k) : ((ps.take k).map (prg r) ++ (ps.drop k).map (prt 0)).set i (prg r' p) = (ps.take k).map (prg r) ++ ([prg r' p] ++ (ps.drop (k + 1)).map (prt 0)) := by
  subst hi
  have hk : i < ps.length := (List.getElem?_eq_some_iff.1 h).1
  have e : ps.drop i = p :: ps.drop (i + 1) := by
    rw [List.drop_eq_getElem_cons hk]; rw [List.getElem?_eq_getElem hk] at h; cases h; rfl
  rw [e, List.map_cons, List.set_append_right _ _ (by simp; omega)]
  simp [Nat.min_eq_left (Nat.le_of_lt hk)]
theorem own_row {ps : List Pt} {k : Nat} {p : Pt} (h : ps[k]? = some p) (r : Nat) : ((ps.take k).map (prg r) ++ (ps.drop k).map (prt 0))[0 + (k : Int).toNat]? = some (prt 0 p) := by
  have hk : k < ps.length := (List.getElem?_eq_some_iff.1 h).1
  simp [List.getElem?_append, Nat.min_eq_left (Nat.le_of_lt hk), h]
theorem own_l (n : Int) (ps : List Pt) (hp : PtsOk ps) : ACallL Try.prog 70 [.agg [.val (.int .i64 n), .list 0 2 (ps.map (prt 0))]] [.perm] (.agg [.val (.int .i64 n), .glist 1 2 (ps.map (prg 2))]) [.perm, .uniq, .uniq] := by
  cases ps with
  | nil =>
    refine ACallL.of_ev mixed Try.func70 rfl (fun a w => Try.call70 a w) (congrArg Array.toList Try.results70) Try.ntmps70 fun B hB => ?_
    ((conv => whnf); (repeat' ((first | (with_reducible first | refine qif_n ?_ | refine qif_t ‹_› ?_ | refine qif_f ‹_› ?_) | ((with_reducible refine qif_t ?_ ?_); focus decide) | ((with_reducible refine qif_f ?_ ?_); focus decide) | (with_reducible refine And.intro (orderOk_i ?ho) ?_; (case ho => kernel_rfl)) | (with_reducible first | refine qif_i (fun _ => ?_) (fun _ => ?_) | refine frcVs_i ?_ | refine frcRs_i ?_)) <;> (conv => whnf))))
    ((with_reducible refine qCall.fresh (fun r => .glist r 2 []) (cloneP_nil) [(0, 0)] [] ?hk ?_); (case hk => rfl); (conv => whnf); (repeat (refine And.intro ?_ ?_; exact sideT; (conv => whnf))); (fail_if_success (with_reducible first | refine And.intro (eqv_i ?_) ?_ | refine And.intro (ren_i ?_) ?_)))
    ((conv => whnf); (repeat' ((first | (with_reducible first | refine qif_n ?_ | refine qif_t ‹_› ?_ | refine qif_f ‹_› ?_) | ((with_reducible refine qif_t ?_ ?_); focus decide) | ((with_reducible refine qif_f ?_ ?_); focus decide) | (with_reducible refine And.intro (orderOk_i ?ho) ?_; (case ho => kernel_rfl)) | (with_reducible first | refine qif_i (fun _ => ?_) (fun _ => ?_) | refine frcVs_i ?_ | refine frcRs_i ?_) | (refine qAW.unroll mixed 1 ?_)) <;> (conv => whnf))))
    all_goals (refine qConv.of hB [] [(0, 0), (3, 1)] [] (by rfl) ?_; focus ((conv => whnf); (repeat (refine And.intro ?_ ?_; rotate_left; (conv => whnf))); exact trivial; all_goals (try exact andT)))
    all_goals first | rfl | exact parts_gg rfl []
  | cons p0 ps0 =>
    obtain ⟨ps, hps⟩ : ∃ ps, ps = p0 :: ps0 := ⟨_, rfl⟩
    have hc := cloneP_l p0 ps0 hp
    have hn : ps0.length + 1 = ps.length := by rw [hps]; rfl
    rw [← hps] at hp hc ⊢
    rw [hn] at hc
    obtain ⟨hl, hb⟩ := hp
    refine ACallL.of_ev mixed Try.func70 rfl (fun a w => Try.call70 a w) (congrArg Array.toList Try.results70) Try.ntmps70 fun B hB => ?_
    ((conv => whnf); (repeat' ((first | (with_reducible first | refine qif_n ?_ | refine qif_t ‹_› ?_ | refine qif_f ‹_› ?_) | ((with_reducible refine qif_t ?_ ?_); focus decide) | ((with_reducible refine qif_f ?_ ?_); focus decide) | (with_reducible refine And.intro (orderOk_i ?ho) ?_; (case ho => kernel_rfl)) | (with_reducible first | refine qif_i (fun _ => ?_) (fun _ => ?_) | refine frcVs_i ?_ | refine frcRs_i ?_)) <;> (conv => whnf))))
    ((with_reducible refine qCall.of (hc) [] [(0, 0)] [] [(1, 3)] [(3, .live ⟨2, 87, ps.map (prt 0)⟩)] (.sl 3 0 ps.length) ?hk ?_); (case hk => rfl); (conv => whnf); (repeat (refine And.intro ?_ ?_; exact sideT; (conv => whnf))); (fail_if_success (with_reducible first | refine And.intro (eqv_i ?_) ?_ | refine And.intro (ren_i ?_) ?_)))
    ((conv => whnf); (repeat' ((first | (with_reducible first | refine qif_n ?_ | refine qif_t ‹_› ?_ | refine qif_f ‹_› ?_) | ((with_reducible refine qif_t ?_ ?_); focus decide) | ((with_reducible refine qif_f ?_ ?_); focus decide) | (with_reducible refine And.intro (orderOk_i ?ho) ?_; (case ho => kernel_rfl)) | (with_reducible first | refine qif_i (fun _ => ?_) (fun _ => ?_) | refine frcVs_i ?_ | refine frcRs_i ?_)) <;> (conv => whnf))))
    refine qAW.loop mixed (X := Nat) (fun k => slotsOf 28 [(1, .ptr 1 0 0), (2, .ptr 2 0 0), (10, .val (.int .i64 ps.length)), (11, .val (.int .i64 k))])
      (fun k => [.perm, .live ⟨2, 46, [[.val (.int .i64 n), .sl 3 0 ps.length]]⟩, .live ⟨2, 46, [[.val (.int .i64 0), .val (.slice none 0 0)]]⟩, .live ⟨2, 87, (ps.take k).map (prg 4) ++ (ps.drop k).map (prt 0)⟩, .uniq])
      (fun k => k ≤ ps.length) (fun k => ps.length - k) 0 (Nat.zero_le _) ?_ ?_
    · (refine qConv.of hB [(1, 1), (2, 2), (3, 3)] [(0, 0)] [] (by rfl) ?_; focus ((conv => whnf); (repeat (refine And.intro ?_ ?_; rotate_left; (conv => whnf))); exact trivial; all_goals (try exact andT)))
      all_goals first | rfl | (exact rowsT) | exact parts_ll rfl ps
    · intro k hk
      by_cases hlt : k < ps.length
      · obtain ⟨⟨s, xs⟩, hxk⟩ : ∃ p, ps[k]? = some p := ⟨_, List.getElem?_eq_getElem hlt⟩
        have hx := hb _ (List.mem_of_getElem? hxk)
        have hrow := own_row hxk 4
        have w := IntWalk.i64_in (k + 1) (by omega)
        ((conv => whnf); (repeat' ((first | (with_reducible first | refine qif_n ?_ | refine qif_t ‹_› ?_ | refine qif_f ‹_› ?_) | ((with_reducible refine qif_t ?_ ?_); focus decide) | ((with_reducible refine qif_f ?_ ?_); focus decide) | (with_reducible refine And.intro (orderOk_i ?ho) ?_; (case ho => kernel_rfl)) | ((with_reducible refine qif_t ?_ ?_); focus (simp [hlt]; done)) | ((with_reducible refine qif_f ?_ ?_); focus (simp [hlt]; done)) | (with_reducible first | refine qif_i (fun _ => ?_) (fun _ => ?_) | refine frcVs_i ?_ | refine frcRs_i ?_) | (refine qCase_i (idxS rfl rfl rfl rfl rfl rfl rfl rfl (by omega)) ?_) | (refine qCase_i (ldR rfl rfl rfl rfl rfl hrow rfl) ?_)) <;> (conv => whnf))))
        ((with_reducible refine qCall.fresh (fun r => gL r xs) (clone_l xs hx) [(0, 0)] [] ?hk ?_); (case hk => rfl); (conv => whnf); (repeat (refine And.intro ?_ ?_; exact sideT; (conv => whnf))); (fail_if_success (with_reducible first | refine And.intro (eqv_i ?_) ?_ | refine And.intro (ren_i ?_) ?_)))
        ((conv => whnf); (repeat' ((first | (with_reducible first | refine qif_n ?_ | refine qif_t ‹_› ?_ | refine qif_f ‹_› ?_) | ((with_reducible refine qif_t ?_ ?_); focus decide) | ((with_reducible refine qif_f ?_ ?_); focus decide) | (with_reducible refine And.intro (orderOk_i ?ho) ?_; (case ho => kernel_rfl)) | (with_reducible first | refine qif_i (fun _ => ?_) (fun _ => ?_) | refine frcVs_i ?_ | refine frcRs_i ?_) | (refine qCase_i (idxS rfl rfl rfl rfl rfl rfl rfl rfl (by omega)) ?_) | (refine qCase_i (stR rfl rfl rfl rfl hrow rfl rfl (Nat.le_of_ble_eq_true rfl)) ?_)) <;> (conv => whnf))))
        refine ⟨k + 1, by omega, by omega, ?_⟩
        (refine qConv.of hB [(1, 1), (2, 2), (3, 3)] [(0, 0), (4, 4), (5, 4)] [] (by rfl) ?_; focus ((conv => whnf); (repeat (refine And.intro ?_ ?_; rotate_left; (conv => whnf))); exact trivial; all_goals (try exact andT)))
        all_goals first | rfl | (simp [w]; done) | (exact rowsT) | skip
        refine RowsRen.cast (own_rows (i := 0 + (k : Int).toNat) hxk 4 5 (by simp)) ?_
        refine RowsRen.castR (b := (ps.take k).map (prg 4) ++ ([prg 4 (s, xs)] ++ (ps.drop (k + 1)).map (prt 0))) (by rw [parts_snoc (prg 4) hxk, List.append_assoc]) ?_
        refine RowsRen.app (parts_gg ?_ _) (RowsRen.app (row_gg ?_ (s, xs)) (parts_ll ?_ _)) <;> rfl
      · ((conv => whnf); (repeat' ((first | (with_reducible first | refine qif_n ?_ | refine qif_t ‹_› ?_ | refine qif_f ‹_› ?_) | ((with_reducible refine qif_t ?_ ?_); focus decide) | ((with_reducible refine qif_f ?_ ?_); focus decide) | (with_reducible refine And.intro (orderOk_i ?ho) ?_; (case ho => kernel_rfl)) | ((with_reducible refine qif_t ?_ ?_); focus (simp [hlt]; done)) | ((with_reducible refine qif_f ?_ ?_); focus (simp [hlt]; done)) | (with_reducible first | refine qif_i (fun _ => ?_) (fun _ => ?_) | refine frcVs_i ?_ | refine frcRs_i ?_)) <;> (conv => whnf))))
        have : k = ps.length := by omega
        subst this
        (refine qConv.of hB [] [(0, 0), (4, 2)] [(3, 1)] (by rfl) ?_; focus ((conv => whnf); (repeat (refine And.intro ?_ ?_; rotate_left; (conv => whnf))); exact trivial; all_goals (try exact andT)))
        all_goals first | rfl | (refine RowsRen.cast ?_ (parts_gg (r := 4) rfl ps); simp; exact List.take_of_length_le (by simp))
def mayStep (n e : Int) (p : Pt) : Bool := within p.1 4294967295 && (decide (p.2.length ≠ 0) && (decide (e < wdiff p.1 n) && (decide (p.2.length ≤ 2048) && decide (wdiff p.1 n ≤ 2048 - p.2.length))))
def mayGo (n : Int) : Int → List Pt → Bool
  | _, [] => true
  | e, p :: ps => mayStep n e p && mayGo n (wdiff p.1 n + p.2.length) ps
def mayB (n : Int) (ps : List Pt) : Bool := within n 4294967295 && (decide (ps.length ≤ 8) && mayGo n 0 ps)
theorem drop_cons {α : Type} {ps : List α} {k : Nat} {p : α} (h : ps[k]? = some p) : ps.drop k = p :: ps.drop (k + 1) := by
  have hk : k < ps.length := (List.getElem?_eq_some_iff.1 h).1
  rw [List.drop_eq_getElem_cons hk]; rw [List.getElem?_eq_getElem hk] at h; cases h; rfl
theorem mayGo_step {n e : Int} {ps : List Pt} {k : Nat} {p : Pt} {b : Bool} (h : ps[k]? = some p) (hg : mayGo n e (ps.drop k) = b) : (mayStep n e p && mayGo n (wdiff p.1 n + p.2.length) (ps.drop (k + 1))) = b := by
  rw [drop_cons h] at hg; exact hg
theorem may_l (n : Int) (ps : List Pt) (hp : PtsOk ps) : ACallL Try.prog 66 [.agg [.val (.int .i64 n), .list 0 2 (ps.map (prt 0))]] [.perm] (.val (.bool (mayB n ps))) [.perm] := by
  obtain ⟨hl, hb⟩ := hp
  have px := pl_parts ps
  have hlen : (ps.map (prt 0)).length = ps.length := by simp
  by_cases hn : within n 4294967295 = true
  · by_cases h8 : ps.length ≤ 8
    · obtain ⟨b, hg⟩ : ∃ b, mayGo n 0 ps = b := ⟨_, rfl⟩
      have hm : mayB n ps = b := by simp [mayB, hn, h8, hg]
      have h8' : ¬ (8 : Int) < ps.length := by omega
      rw [hm]
      refine ACallL.of_ev mixed Try.func66 rfl (fun a w => Try.call66 a w) (congrArg Array.toList Try.results66) Try.ntmps66 fun B hB => ?_
      ((conv => whnf); (repeat' ((first | (with_reducible first | refine qif_n ?_ | refine qif_t ‹_› ?_ | refine qif_f ‹_› ?_) | ((with_reducible refine qif_t ?_ ?_); focus decide) | ((with_reducible refine qif_f ?_ ?_); focus decide) | (with_reducible refine And.intro (orderOk_i ?ho) ?_; (case ho => kernel_rfl)) | ((with_reducible refine qif_t ?_ ?_); focus (simp [hn, hlen, h8']; done)) | ((with_reducible refine qif_f ?_ ?_); focus (simp [hn, hlen, h8']; done)) | (with_reducible first | refine qif_i (fun _ => ?_) (fun _ => ?_) | refine frcVs_i ?_ | refine frcRs_i ?_) | ((with_reducible refine qCall.pure (spanIs_l _) ?_ ?_ ?_ ?_); rotate_left 4; exact trivial; exact plT; exact plT)) <;> (conv => whnf))))
      refine qAW.loop mixed (X := Nat × Int) (fun x => slotsOf 64 [(1, .ptr 1 0 0), (3, .val (.int .i64 x.2)), (18, .list 0 2 (ps.map (prt 0))), (19, .val (.int .i64 ps.length)), (20, .val (.int .i64 x.1))]) (fun x => [.perm, .live ⟨2, 46, [[.val (.int .i64 n), .list 0 2 (ps.map (prt 0))]]⟩]) (fun x => x.1 ≤ ps.length ∧ mayGo n x.2 (ps.drop x.1) = b) (fun x => ps.length - x.1) (0, 0) ⟨Nat.zero_le _, hg⟩ ?_ ?_
      · (refine qConv.of hB [(1, 1)] [(0, 0)] [] (by rfl) ?_; focus ((conv => whnf); (repeat (refine And.intro ?_ ?_; rotate_left; (conv => whnf))); exact trivial; all_goals (try exact andT)))
        all_goals first | rfl | (exact rowsT) | (rw [hlen]; done)
      · rintro ⟨k, e⟩ ⟨hk, hgk⟩
        dsimp only at hk hgk ⊢
        by_cases hlt : k < ps.length
        · obtain ⟨⟨s, xs⟩, hxk⟩ : ∃ p, ps[k]? = some p := ⟨_, List.getElem?_eq_getElem hlt⟩
          have hx : xs.length ≤ 100000000 := hb _ (List.mem_of_getElem? hxk)
          have hrow : (ps.map (prt 0))[(k : Int).toNat]? = some [.val (.int .i64 s), bL 0 xs] := by simp [hxk]
          have w := IntWalk.i64_in (k + 1) (by omega)
          have hd := wdiff_bd s n
          have w2 := IntWalk.i64_in (2048 - xs.length) (by omega)
          have w3 := IntWalk.i64_in (wdiff s n + xs.length) (by omega)
          have hs := mayGo_step hxk hgk
          have lx : (xs.map bR).length = xs.length := by simp
          have pxs : PlRows (xs.map bR) := pl_bytes xs
          unfold mayStep at hs
          dsimp only at hs
          have hlt' : (k : Int) < ps.length := by omega
          ((conv => whnf); (repeat' ((first | (with_reducible first | refine qif_n ?_ | refine qif_t ‹_› ?_ | refine qif_f ‹_› ?_) | ((with_reducible refine qif_t ?_ ?_); focus decide) | ((with_reducible refine qif_f ?_ ?_); focus decide) | (with_reducible refine And.intro (orderOk_i ?ho) ?_; (case ho => kernel_rfl)) | ((with_reducible refine qif_t ?_ ?_); focus (simp [hlt']; done)) | ((with_reducible refine qif_f ?_ ?_); focus (simp [hlt']; done)) | (with_reducible first | refine qif_i (fun _ => ?_) (fun _ => ?_) | refine frcVs_i ?_ | refine frcRs_i ?_) | (refine qCase_i (idxL rfl rfl rfl rfl rfl rfl (by omega) hrow) ?_) | ((with_reducible refine qCall.pure (spanDiff_l _ _) ?_ ?_ ?_ ?_); rotate_left 4; exact trivial; exact plT; exact plT) | ((with_reducible refine qCall.pure (spanIs_l _) ?_ ?_ ?_ ?_); rotate_left 4; exact trivial; exact plT; exact plT)) <;> (conv => whnf))))
          all_goals simp only [lx, w2, w3, decide_eq_true_eq, decide_eq_false_iff_not, beq_iff_eq, beq_eq_false_iff_ne] at *
          all_goals first
            | ((refine qConv.of hB [] [(0, 0)] [] (by rfl) ?_; focus ((conv => whnf); (repeat (refine And.intro ?_ ?_; rotate_left; (conv => whnf))); exact trivial; all_goals (try exact andT)))
               rw [← hs]; congr 2; symm; rw [Bool.eq_false_iff]; intro hh; simp only [Bool.and_eq_true, decide_eq_true_eq] at hh; obtain ⟨⟨h1, h2, h3, h4, h5⟩, _⟩ := hh; first | omega | (simp_all; done))
            | (refine ⟨(k + 1, wdiff s n + xs.length), ⟨by dsimp only; omega, ?_⟩, by dsimp only; omega, ?_⟩
               · rw [← hs]; symm
                 rw [Bool.and_eq_right_iff_imp]
                 intro _
                 simp only [Bool.and_eq_true, decide_eq_true_eq]
                 exact ⟨by assumption, by omega, by omega, by omega, by omega⟩
               · (refine qConv.of hB [(1, 1)] [(0, 0)] [] (by rfl) ?_; focus ((conv => whnf); (repeat (refine And.intro ?_ ?_; rotate_left; (conv => whnf))); exact trivial; all_goals (try exact andT)))
                 all_goals first | rfl | (exact rowsT) | (simp [w]; done) | (rw [lx, w3]; done) | (simp [w3]; done))
        · ((conv => whnf); (repeat' ((first | (with_reducible first | refine qif_n ?_ | refine qif_t ‹_› ?_ | refine qif_f ‹_› ?_) | ((with_reducible refine qif_t ?_ ?_); focus decide) | ((with_reducible refine qif_f ?_ ?_); focus decide) | (with_reducible refine And.intro (orderOk_i ?ho) ?_; (case ho => kernel_rfl)) | ((with_reducible refine qif_t ?_ ?_); focus (simp [hlt]; done)) | ((with_reducible refine qif_f ?_ ?_); focus (simp [hlt]; done)) | (with_reducible first | refine qif_i (fun _ => ?_) (fun _ => ?_) | refine frcVs_i ?_ | refine frcRs_i ?_)) <;> (conv => whnf))))
          have : k = ps.length := by omega
          subst this
          (refine qConv.of hB [] [(0, 0)] [] (by rfl) ?_; focus ((conv => whnf); (repeat (refine And.intro ?_ ?_; rotate_left; (conv => whnf))); exact trivial; all_goals (try exact andT)))
          all_goals first | rfl | (rw [← hgk]; simp [mayGo])
    · have h8' : (8 : Int) < ps.length := by omega
      have hm : mayB n ps = false := by simp [mayB, hn, h8]
      rw [hm]
      refine ACallL.of_ev mixed Try.func66 rfl (fun a w => Try.call66 a w) (congrArg Array.toList Try.results66) Try.ntmps66 fun B hB => ?_
      ((conv => whnf); (repeat' ((first | (with_reducible first | refine qif_n ?_ | refine qif_t ‹_› ?_ | refine qif_f ‹_› ?_) | ((with_reducible refine qif_t ?_ ?_); focus decide) | ((with_reducible refine qif_f ?_ ?_); focus decide) | (with_reducible refine And.intro (orderOk_i ?ho) ?_; (case ho => kernel_rfl)) | ((with_reducible refine qif_t ?_ ?_); focus (simp [hn, hlen, h8']; done)) | ((with_reducible refine qif_f ?_ ?_); focus (simp [hn, hlen, h8']; done)) | (with_reducible first | refine qif_i (fun _ => ?_) (fun _ => ?_) | refine frcVs_i ?_ | refine frcRs_i ?_) | ((with_reducible refine qCall.pure (spanIs_l _) ?_ ?_ ?_ ?_); rotate_left 4; exact trivial; exact plT; exact plT)) <;> (conv => whnf))))
      all_goals (refine qConv.of hB [] [(0, 0)] [] (by rfl) ?_; focus ((conv => whnf); (repeat (refine And.intro ?_ ?_; rotate_left; (conv => whnf))); exact trivial; all_goals (try exact andT)))
      all_goals rfl
  · have hn : within n 4294967295 = false := by simpa using hn
    have hm : mayB n ps = false := by simp [mayB, hn]
    rw [hm]
    refine ACallL.of_ev mixed Try.func66 rfl (fun a w => Try.call66 a w) (congrArg Array.toList Try.results66) Try.ntmps66 fun B hB => ?_
    ((conv => whnf); (repeat' ((first | (with_reducible first | refine qif_n ?_ | refine qif_t ‹_› ?_ | refine qif_f ‹_› ?_) | ((with_reducible refine qif_t ?_ ?_); focus decide) | ((with_reducible refine qif_f ?_ ?_); focus decide) | (with_reducible refine And.intro (orderOk_i ?ho) ?_; (case ho => kernel_rfl)) | ((with_reducible refine qif_t ?_ ?_); focus (simp [hn]; done)) | ((with_reducible refine qif_f ?_ ?_); focus (simp [hn]; done)) | (with_reducible first | refine qif_i (fun _ => ?_) (fun _ => ?_) | refine frcVs_i ?_ | refine frcRs_i ?_) | ((with_reducible refine qCall.pure (spanIs_l _) ?_ ?_ ?_ ?_); rotate_left 4; exact trivial; exact plT; exact plT)) <;> (conv => whnf))))
    all_goals (refine qConv.of hB [] [(0, 0)] [] (by rfl) ?_; focus ((conv => whnf); (repeat (refine And.intro ?_ ?_; rotate_left; (conv => whnf))); exact trivial; all_goals (try exact andT)))
    all_goals rfl
end Go.Proofs.Ytceohcbokbalhaa

/- The reassembler's window on data. No condition but lengths. -/
namespace Go.Proofs.Ytceohcbokbalhaa
open Go.RowKit
set_option linter.unusedVariables false
set_option linter.unusedSimpArgs false
set_option maxRecDepth 100000
set_option maxHeartbeats 4000000
theorem wdiff_wadd (n s lo : Int) (hs : 0 ≤ lo - wdiff s n) (h2 : lo - wdiff s n < 2147483648) : wdiff (wadd n lo) s = lo - wdiff s n := by
  unfold wdiff wadd at *
  omega
theorem wdiff_self (n lo : Int) (h0 : 0 ≤ lo) (h1 : lo < 2147483648) : wdiff (wadd n lo) n = lo := by
  unfold wdiff wadd
  omega
theorem meet_in {s l n k : Int} (h : max (wdiff s n) 0 < min (wdiff s n + l) k) : meetS s l n k = wadd n (max (wdiff s n) 0) ∧ meetN s l n k = min (wdiff s n + l) k - max (wdiff s n) 0 := by
  unfold meetS meetN
  rw [if_pos h, if_pos h]; exact ⟨rfl, rfl⟩
theorem meet_out {s l n k : Int} (h : ¬ max (wdiff s n) 0 < min (wdiff s n + l) k) : meetS s l n k = 0 ∧ meetN s l n k = 0 := by
  unfold meetS meetN
  rw [if_neg h, if_neg h]; exact ⟨rfl, rfl⟩
theorem within_no (n s : Int) (xs : List Int) (ps : List Pt) (hn : 0 ≤ n ∧ n ≤ 4294967295) (hs : 0 ≤ s ∧ s ≤ 4294967295) (hx : xs.length ≤ 65536) (h : ¬ max (wdiff s n) 0 < min (wdiff s n + xs.length) 2048) :
    ACallL Try.prog 100 [.agg [.val (.int .i64 n), .list 1 2 (ps.map (prt 1))], .val (.int .i64 s), bL 0 xs] [.perm, .perm] (.tup [.val (.int .i64 0), .list 0 1 []]) [.perm, .perm] := by
  have lx : (xs.map bR).length = xs.length := by simp
  have px := pl_bytes xs
  have ho := ofOk_l s xs.length hs (by omega)
  have hm := meetOk_l s xs.length n 2048 hs (by omega) hn (by omega)
  obtain ⟨e1, e2⟩ := meet_out h
  rw [e1, e2, ← lx] at hm
  rw [← lx] at ho
  refine ACallL.of_ev mixed Try.func100 rfl (fun a w => Try.call100 a w) (congrArg Array.toList Try.results100) Try.ntmps100 fun B hB => ?_
  ((conv => whnf); (repeat' ((first | (with_reducible first | refine qif_n ?_ | refine qif_t ‹_› ?_ | refine qif_f ‹_› ?_) | ((with_reducible refine qif_t ?_ ?_); focus decide) | ((with_reducible refine qif_f ?_ ?_); focus decide) | (with_reducible refine And.intro (orderOk_i ?ho) ?_; (case ho => kernel_rfl)) | ((with_reducible refine qif_t ?_ ?_); focus (simp [lx]; done)) | ((with_reducible refine qif_f ?_ ?_); focus (simp [lx]; done)) | (with_reducible first | refine qif_i (fun _ => ?_) (fun _ => ?_) | refine frcVs_i ?_ | refine frcRs_i ?_) | ((with_reducible refine qCall.pure (ofOk_l n 2048 hn (by omega)) ?_ ?_ ?_ ?_); rotate_left 4; exact trivial; exact plT; exact plT) | ((with_reducible refine qCall.pure (ho) ?_ ?_ ?_ ?_); rotate_left 4; exact trivial; exact plT; exact plT) | ((with_reducible refine qCall.pure (hm) ?_ ?_ ?_ ?_); rotate_left 4; exact trivial; exact plT; exact plT) | ((with_reducible refine qCall.pure (partsOk_l 0 0 (by omega) (by omega)) ?_ ?_ ?_ ?_); rotate_left 4; exact trivial; exact plT; exact plT) | ((with_reducible refine qCall.pure (spanDiff_l _ _) ?_ ?_ ?_ ?_); rotate_left 4; exact trivial; exact plT; exact plT)) <;> (conv => whnf))))
  all_goals (refine qConv.of hB [] [(0, 0), (1, 1)] [] (by rfl) ?_; focus ((conv => whnf); (repeat (refine And.intro ?_ ?_; rotate_left; (conv => whnf))); exact trivial; all_goals (try exact andT)))
  all_goals rfl
theorem within_some (n s : Int) (xs : List Int) (ps : List Pt) (hn : 0 ≤ n ∧ n ≤ 4294967295) (hs : 0 ≤ s ∧ s ≤ 4294967295) (hx : xs.length ≤ 65536) (h : max (wdiff s n) 0 < min (wdiff s n + xs.length) 2048) (at_ fr le : Nat) (ha : (at_ : Int) = max (wdiff s n) 0) (hf : (fr : Int) = max (wdiff s n) 0 - wdiff s n) (hl : (le : Int) = min (wdiff s n + xs.length) 2048 - max (wdiff s n) 0) :
    ACallL Try.prog 100 [.agg [.val (.int .i64 n), .list 1 2 (ps.map (prt 1))], .val (.int .i64 s), bL 0 xs] [.perm, .perm] (.tup [.val (.int .i64 at_), bL 0 ((xs.drop fr).take le)]) [.perm, .perm] := by
  have lx : (xs.map bR).length = xs.length := by simp
  have px := pl_bytes xs
  have ho := ofOk_l s xs.length hs (by omega)
  have hm := meetOk_l s xs.length n 2048 hs (by omega) hn (by omega)
  obtain ⟨e1, e2⟩ := meet_in h
  rw [e1, e2, ← hl, ← lx] at hm
  rw [← lx] at ho
  have hw := wadd_bd n (max (wdiff s n) 0)
  have hd := wdiff_bd s n
  have f1 := wdiff_wadd n s (max (wdiff s n) 0) (by omega) (by omega)
  have f2 := wdiff_self n (max (wdiff s n) 0) (by omega) (by omega)
  rw [← hf] at f1
  rw [← ha] at f2 f1 hm hw
  have hp := partsOk_l (wadd n at_) le (by omega) (by omega)
  have c1 := spanDiff_l (wadd n at_) s
  have c2 := spanDiff_l (wadd n at_) n
  rw [f1] at c1
  rw [f2] at c2
  have hl0 : ¬ (le : Int) = 0 := by omega
  have hl1 : ¬ le = 0 := by omega
  have w := IntWalk.i64_in (fr + le) (by omega)
  have k1 : (fr : Int) + le ≤ xs.length := by omega
  have k2 : (0 : Int) ≤ fr ∧ (fr : Int) ≤ fr + le := by omega
  refine ACallL.of_ev mixed Try.func100 rfl (fun a w => Try.call100 a w) (congrArg Array.toList Try.results100) Try.ntmps100 fun B hB => ?_
  ((conv => whnf); (repeat' ((first | (with_reducible first | refine qif_n ?_ | refine qif_t ‹_› ?_ | refine qif_f ‹_› ?_) | ((with_reducible refine qif_t ?_ ?_); focus decide) | ((with_reducible refine qif_f ?_ ?_); focus decide) | (with_reducible refine And.intro (orderOk_i ?ho) ?_; (case ho => kernel_rfl)) | ((with_reducible refine qif_t ?_ ?_); focus (simp [lx, hl0, hl1]; done)) | ((with_reducible refine qif_f ?_ ?_); focus (simp [lx, hl0, hl1]; done)) | (with_reducible first | refine qif_i (fun _ => ?_) (fun _ => ?_) | refine frcVs_i ?_ | refine frcRs_i ?_) | ((with_reducible refine qCall.pure (ofOk_l n 2048 hn (by omega)) ?_ ?_ ?_ ?_); rotate_left 4; exact trivial; exact plT; exact plT) | ((with_reducible refine qCall.pure (ho) ?_ ?_ ?_ ?_); rotate_left 4; exact trivial; exact plT; exact plT) | ((with_reducible refine qCall.pure (hm) ?_ ?_ ?_ ?_); rotate_left 4; exact trivial; exact plT; exact plT) | ((with_reducible refine qCall.pure (hp) ?_ ?_ ?_ ?_); rotate_left 4; exact trivial; exact plT; exact plT) | ((with_reducible refine qCall.pure (c1) ?_ ?_ ?_ ?_); rotate_left 4; exact trivial; exact plT; exact plT) | ((with_reducible refine qCall.pure (c2) ?_ ?_ ?_ ?_); rotate_left 4; exact trivial; exact plT; exact plT) | (refine qCase_i (slL rfl rfl rfl rfl rfl rfl rfl rfl ⟨k2.1, Int.le_trans k2.2 (Int.le_of_eq w.symm), Int.le_trans (Int.le_of_eq w) (Int.le_trans k1 (Int.le_of_eq (congrArg _ lx.symm))), Int.le_refl _, .inl rfl⟩) ?_)) <;> (conv => whnf))))
  all_goals (refine qConv.of hB [] [(0, 0), (1, 1)] [] (by rfl) ?_; focus ((conv => whnf); (repeat (refine And.intro ?_ ?_; rotate_left; (conv => whnf))); exact trivial; all_goals (try exact andT)))
  all_goals first | rfl | (refine bytes_ren' rfl ?_; simp only [Option.getD_some, w]; have e0 : ((fr : Int) + le - fr).toNat = le := by omega
                           rw [e0, Int.toNat_natCast, List.map_take, List.map_drop])
abbrev hasR (o : Option Int) : List AV := [.val (.bool o.isSome)]
abbrev allR (o : Option Int) : List AV := [.val (.int .u8 (o.getD 0))]
def lay1 (w : List (Option Int)) (i : Nat) (c : Int) : List (Option Int) := match w[i]? with | some none => w.set i (some c) | _ => w
def layW (w : List (Option Int)) (i : Nat) : List Int → List (Option Int)
  | [] => w
  | c :: cs => layW (lay1 w i c) (i + 1) cs
theorem lay1_len (w : List (Option Int)) (i : Nat) (c : Int) : (lay1 w i c).length = w.length := by
  unfold lay1; split <;> simp
theorem layW_len : ∀ (cs : List Int) (w : List (Option Int)) (i : Nat), (layW w i cs).length = w.length
  | [], w, i => rfl
  | c :: cs, w, i => by rw [layW, layW_len cs, lay1_len]
theorem layW_app : ∀ (cs ds : List Int) (w : List (Option Int)) (i : Nat), layW w i (cs ++ ds) = layW (layW w i cs) (i + cs.length) ds
  | [], ds, w, i => rfl
  | c :: cs, ds, w, i => by
    rw [List.cons_append, layW, layW, layW_app cs ds]
    congr 1
    simp; omega
theorem layW_snoc {xs : List Int} {k : Nat} {x : Int} (h : xs[k]? = some x) (w : List (Option Int)) (i : Nat) : layW w i (xs.take (k + 1)) = lay1 (layW w i (xs.take k)) (i + k) x := by
  have hk : k < xs.length := (List.getElem?_eq_some_iff.1 h).1
  rw [take_snoc h, layW_app]
  simp [layW, Nat.min_eq_left (Nat.le_of_lt hk)]
theorem set_val {α : Type} {w : List α} {f : α → List AV} {i j : Nat} {x : α} {r : List AV} (hi : j = i) (hr : r = f x) : (w.map f).set j r = (w.set i x).map f := by
  subst hi hr; rw [List.map_set]
theorem vals_ren {α : Type} {q : Rn} {h : Hp} {rows : List (List AV)} (l : List α) (f : α → Value) (e : rows = l.map fun x => [.val (f x)]) : RowsRen q h rows (l.map fun x => [.val (f x)]) :=
  RowsRen.vals e (by simp [AV.isVal])
theorem lay_l (w0 : List (Option Int)) (at_ : Nat) (xs : List Int) (hw : w0.length = 2048) (ha : at_ + xs.length ≤ 2048) :
    ACallL Try.prog 107 [.val (.int .i64 at_), bL 0 xs, .ptr 1 0 0, .ptr 2 0 0] [.perm, .live ⟨1, 129, [[.sl 3 0 2048]]⟩, .live ⟨1, 31, [[.sl 4 0 2048]]⟩, .live ⟨1, 4, w0.map hasR⟩, .live ⟨1, 5, w0.map allR⟩] (.tup [])
      [.perm, .live ⟨1, 129, [[.sl 3 0 2048]]⟩, .live ⟨1, 31, [[.sl 4 0 2048]]⟩, .live ⟨1, 4, (layW w0 at_ xs).map hasR⟩, .live ⟨1, 5, (layW w0 at_ xs).map allR⟩] := by
  have lx : (xs.map bR).length = xs.length := by simp
  refine ACallL.of_ev mixed Try.func107 rfl (fun a w => Try.call107 a w) (congrArg Array.toList Try.results107) Try.ntmps107 fun B hB => ?_
  ((conv => whnf); (repeat' ((first | (with_reducible first | refine qif_n ?_ | refine qif_t ‹_› ?_ | refine qif_f ‹_› ?_) | ((with_reducible refine qif_t ?_ ?_); focus decide) | ((with_reducible refine qif_f ?_ ?_); focus decide) | (with_reducible refine And.intro (orderOk_i ?ho) ?_; (case ho => kernel_rfl)) | (with_reducible first | refine qif_i (fun _ => ?_) (fun _ => ?_) | refine frcVs_i ?_ | refine frcRs_i ?_)) <;> (conv => whnf))))
  refine qAW.loop mixed (X := Nat) (fun k => slotsOf 34 [(0, .val (.int .i64 at_)), (2, .ptr 1 0 0), (3, .ptr 2 0 0), (8, bL 0 xs), (9, .val (.int .i64 xs.length)), (10, .val (.int .i64 k))])
    (fun k => [.perm, .live ⟨1, 129, [[.sl 3 0 2048]]⟩, .live ⟨1, 31, [[.sl 4 0 2048]]⟩, .live ⟨1, 4, (layW w0 at_ (xs.take k)).map hasR⟩, .live ⟨1, 5, (layW w0 at_ (xs.take k)).map allR⟩]) (fun k => k ≤ xs.length) (fun k => xs.length - k) 0 (Nat.zero_le _) ?_ ?_
  · (refine qConv.of hB [(1, 1), (2, 2), (3, 3), (4, 4)] [(0, 0)] [] (by rfl) ?_; focus ((conv => whnf); (repeat (refine And.intro ?_ ?_; rotate_left; (conv => whnf))); exact trivial; all_goals (try exact andT)))
    all_goals first | rfl | (exact rowsT) | exact bytes_ren rfl rfl | (rw [lx]; done)
  · intro k hk
    obtain ⟨w1, hw1⟩ : ∃ w1, layW w0 at_ (xs.take k) = w1 := ⟨_, rfl⟩
    have l1 : w1.length = 2048 := by rw [← hw1, layW_len, hw]
    by_cases hlt : k < xs.length
    · obtain ⟨x, hxk⟩ : ∃ x, xs[k]? = some x := ⟨_, List.getElem?_eq_getElem hlt⟩
      have hrow : (xs.map bR)[(k : Int).toNat]? = some (bR x) := by simp [hxk]
      have w := IntWalk.i64_in (k + 1) (by omega)
      have w2 := IntWalk.i64_in (at_ + k) (by omega)
      have e0 : 0 + ((at_ : Int) + k).toNat = at_ + k := by omega
      obtain ⟨o, ho⟩ : ∃ o, w1[at_ + k]? = some o := ⟨_, List.getElem?_eq_getElem (by omega)⟩
      have hs := layW_snoc hxk w0 at_
      rw [hw1] at hs
      dsimp only
      rw [hw1]
      have r1 : (w1.map hasR)[0 + (IntKind.i64.wrap (at_ + k)).toNat]? = some (hasR o) := by rw [w2, e0]; simp [ho]
      have r2 : (w1.map allR)[0 + (IntKind.i64.wrap (at_ + k)).toNat]? = some (allR o) := by rw [w2, e0]; simp [ho]
      cases o with
      | none =>
        have hs2 : layW w0 at_ (xs.take (k + 1)) = w1.set (at_ + k) (some x) := by rw [hs, lay1, ho]
        ((conv => whnf); (repeat' ((first | (with_reducible first | refine qif_n ?_ | refine qif_t ‹_› ?_ | refine qif_f ‹_› ?_) | ((with_reducible refine qif_t ?_ ?_); focus decide) | ((with_reducible refine qif_f ?_ ?_); focus decide) | (with_reducible refine And.intro (orderOk_i ?ho) ?_; (case ho => kernel_rfl)) | ((with_reducible refine qif_t ?_ ?_); focus (simp [lx, hlt]; done)) | ((with_reducible refine qif_f ?_ ?_); focus (simp [lx, hlt]; done)) | (with_reducible first | refine qif_i (fun _ => ?_) (fun _ => ?_) | refine frcVs_i ?_ | refine frcRs_i ?_) | (refine qCase_i (idxL rfl rfl rfl rfl rfl rfl (by omega) hrow) ?_) | (refine qCase_i (idxS rfl rfl rfl rfl rfl rfl rfl rfl (by rw [w2]; omega)) ?_) | (refine qCase_i (ldR rfl rfl rfl rfl rfl r1 rfl) ?_) | (refine qCase_i (stR rfl rfl rfl rfl r1 rfl rfl (Nat.le_of_ble_eq_true rfl)) ?_) | (refine qCase_i (stR rfl rfl rfl rfl r2 rfl rfl (Nat.le_of_ble_eq_true rfl)) ?_)) <;> (conv => whnf))))
        refine ⟨k + 1, by omega, by omega, ?_⟩
        (refine qConv.of hB [(1, 1), (2, 2), (3, 3), (4, 4)] [(0, 0)] [] (by rfl) ?_; focus ((conv => whnf); (repeat (refine And.intro ?_ ?_; rotate_left; (conv => whnf))); exact trivial; all_goals (try exact andT)))
        all_goals first | rfl | (exact rowsT) | (simp [w]; done) | exact bytes_ren rfl rfl | skip
        · rw [hs2]; exact vals_ren _ (fun o : Option Int => .bool o.isSome) (set_val (i := at_ + k) (by rw [w2, e0]) rfl)
        · rw [hs2]; exact vals_ren _ (fun o : Option Int => .int .u8 (o.getD 0)) (set_val (i := at_ + k) (by rw [w2, e0]) rfl)
      | some c =>
        have hs2 : layW w0 at_ (xs.take (k + 1)) = w1 := by rw [hs, lay1, ho]
        ((conv => whnf); (repeat' ((first | (with_reducible first | refine qif_n ?_ | refine qif_t ‹_› ?_ | refine qif_f ‹_› ?_) | ((with_reducible refine qif_t ?_ ?_); focus decide) | ((with_reducible refine qif_f ?_ ?_); focus decide) | (with_reducible refine And.intro (orderOk_i ?ho) ?_; (case ho => kernel_rfl)) | ((with_reducible refine qif_t ?_ ?_); focus (simp [lx, hlt]; done)) | ((with_reducible refine qif_f ?_ ?_); focus (simp [lx, hlt]; done)) | (with_reducible first | refine qif_i (fun _ => ?_) (fun _ => ?_) | refine frcVs_i ?_ | refine frcRs_i ?_) | (refine qCase_i (idxL rfl rfl rfl rfl rfl rfl (by omega) hrow) ?_) | (refine qCase_i (idxS rfl rfl rfl rfl rfl rfl rfl rfl (by rw [w2]; omega)) ?_) | (refine qCase_i (ldR rfl rfl rfl rfl rfl r1 rfl) ?_)) <;> (conv => whnf))))
        refine ⟨k + 1, by omega, by omega, ?_⟩
        (refine qConv.of hB [(1, 1), (2, 2), (3, 3), (4, 4)] [(0, 0)] [] (by rfl) ?_; focus ((conv => whnf); (repeat (refine And.intro ?_ ?_; rotate_left; (conv => whnf))); exact trivial; all_goals (try exact andT)))
        all_goals first | rfl | (exact rowsT) | (simp [w]; done) | exact bytes_ren rfl rfl | skip
        · rw [hs2]; exact vals_ren _ (fun o : Option Int => .bool o.isSome) rfl
        · rw [hs2]; exact vals_ren _ (fun o : Option Int => .int .u8 (o.getD 0)) rfl
    · ((conv => whnf); (repeat' ((first | (with_reducible first | refine qif_n ?_ | refine qif_t ‹_› ?_ | refine qif_f ‹_› ?_) | ((with_reducible refine qif_t ?_ ?_); focus decide) | ((with_reducible refine qif_f ?_ ?_); focus decide) | (with_reducible refine And.intro (orderOk_i ?ho) ?_; (case ho => kernel_rfl)) | ((with_reducible refine qif_t ?_ ?_); focus (simp [lx, hlt]; done)) | ((with_reducible refine qif_f ?_ ?_); focus (simp [lx, hlt]; done)) | (with_reducible first | refine qif_i (fun _ => ?_) (fun _ => ?_) | refine frcVs_i ?_ | refine frcRs_i ?_)) <;> (conv => whnf))))
      have : k = xs.length := by omega
      subst this
      rw [List.take_length] at hw1 ⊢
      (refine qConv.of hB [(1, 1), (2, 2), (3, 3), (4, 4)] [(0, 0)] [] (by rfl) ?_; focus ((conv => whnf); (repeat (refine And.intro ?_ ?_; rotate_left; (conv => whnf))); exact trivial; all_goals (try exact andT)))
      all_goals first | rfl | (exact rowsT) | exact vals_ren _ (fun o : Option Int => .bool o.isSome) rfl | exact vals_ren _ (fun o : Option Int => .int .u8 (o.getD 0)) rfl
def PtsIn (n : Int) (ps : List Pt) : Prop := ∀ p ∈ ps, 0 ≤ wdiff p.1 n ∧ wdiff p.1 n + p.2.length ≤ 2048
def layP (n : Int) (w : List (Option Int)) (ps : List Pt) : List (Option Int) := ps.foldl (fun w p => layW w (wdiff p.1 n).toNat p.2) w
theorem layP_snoc {n : Int} {ps : List Pt} {k : Nat} {p : Pt} (h : ps[k]? = some p) (w : List (Option Int)) : layP n w (ps.take (k + 1)) = layW (layP n w (ps.take k)) (wdiff p.1 n).toNat p.2 := by
  rw [take_snoc h]; simp [layP]
theorem layP_len (n : Int) : ∀ (ps : List Pt) (w : List (Option Int)), (layP n w ps).length = w.length
  | [], w => rfl
  | p :: ps, w => by
    have := layP_len n ps (layW w (wdiff p.1 n).toNat p.2)
    rw [layW_len] at this
    exact this
def win0 : List (Option Int) := List.replicate 2048 none
theorem win0_len : win0.length = 2048 := by simp [win0]
attribute [irreducible] win0
theorem win0_has : win0.map hasR = List.replicate 2048 [.val (.bool false)] := by unfold win0; simp
theorem win0_all : win0.map allR = List.replicate 2048 [.val (.int .u8 0)] := by unfold win0; simp
theorem fill_l (n : Int) (ps : List Pt) (at_ : Nat) (xs : List Int) (hp : PtsOk ps) (hi : PtsIn n ps) (ha : at_ + xs.length ≤ 2048) : ACallL Try.prog 101 [.agg [.val (.int .i64 n), .list 0 2 (ps.map (prt 0))], .val (.int .i64 at_), bL 0 xs] [.perm] (.tup [.sl 1 0 2048, .sl 2 0 2048])
    [.perm, .live ⟨1, 4, (layW (layP n win0 ps) at_ xs).map hasR⟩, .live ⟨1, 5, (layW (layP n win0 ps) at_ xs).map allR⟩] := by
  have px := pl_bytes xs
  have pp := pl_parts ps
  have hlen : (ps.map (prt 0)).length = ps.length := by simp
  obtain ⟨hl, hb⟩ := hp
  refine ACallL.of_ev mixed Try.func101 rfl (fun a w => Try.call101 a w) (congrArg Array.toList Try.results101) Try.ntmps101 fun B hB => ?_
  ((conv => whnf); (repeat' ((first | (with_reducible first | refine qif_n ?_ | refine qif_t ‹_› ?_ | refine qif_f ‹_› ?_) | ((with_reducible refine qif_t ?_ ?_); focus decide) | ((with_reducible refine qif_f ?_ ?_); focus decide) | (with_reducible refine And.intro (orderOk_i ?ho) ?_; (case ho => kernel_rfl)) | (with_reducible first | refine qif_i (fun _ => ?_) (fun _ => ?_) | refine frcVs_i ?_ | refine frcRs_i ?_)) <;> (conv => whnf))))
  refine qAW.loop mixed (X := Nat) (fun k => slotsOf 37 [(1, .val (.int .i64 at_)), (2, bL 0 xs), (3, .ptr 1 0 0), (6, .ptr 2 0 0), (7, .ptr 3 0 0), (8, .clo 107 [.ptr 2 0 0, .ptr 3 0 0]), (15, .list 0 2 (ps.map (prt 0))), (16, .val (.int .i64 ps.length)), (17, .val (.int .i64 k))])
    (fun k => [.perm, .live ⟨2, 46, [[.val (.int .i64 n), .list 0 2 (ps.map (prt 0))]]⟩, .live ⟨1, 129, [[.sl 4 0 2048]]⟩, .live ⟨1, 31, [[.sl 5 0 2048]]⟩, .live ⟨1, 4, (layP n win0 (ps.take k)).map hasR⟩, .live ⟨1, 5, (layP n win0 (ps.take k)).map allR⟩]) (fun k => k ≤ ps.length) (fun k => ps.length - k) 0 (Nat.zero_le _) ?_ ?_
  · (refine qConv.of hB [(1, 1), (2, 2), (3, 3), (4, 4), (5, 5)] [(0, 0)] [] (by rfl) ?_; focus ((conv => whnf); (repeat (refine And.intro ?_ ?_; rotate_left; (conv => whnf))); exact trivial; all_goals (try exact andT)))
    all_goals first | rfl | (exact rowsT) | exact vals_ren _ (fun o : Option Int => .bool o.isSome) win0_has.symm | exact vals_ren _ (fun o : Option Int => .int .u8 (o.getD 0)) win0_all.symm | (rw [hlen]; done)
  · intro k hk
    obtain ⟨w1, hw1⟩ : ∃ w1, layP n win0 (ps.take k) = w1 := ⟨_, rfl⟩
    have l1 : w1.length = 2048 := by rw [← hw1, layP_len, win0_len]
    by_cases hlt : k < ps.length
    · obtain ⟨⟨s, ys⟩, hxk⟩ : ∃ p, ps[k]? = some p := ⟨_, List.getElem?_eq_getElem hlt⟩
      have hx : ys.length ≤ 100000000 := hb _ (List.mem_of_getElem? hxk)
      have hin := hi _ (List.mem_of_getElem? hxk)
      dsimp only at hin
      obtain ⟨d, hd⟩ : ∃ d : Nat, (d : Int) = wdiff s n := ⟨(wdiff s n).toNat, by omega⟩
      have hs := layP_snoc (n := n) hxk win0
      rw [hw1] at hs
      dsimp only at hs
      rw [← hd, Int.toNat_natCast] at hs
      have cd := spanDiff_l s n
      rw [← hd] at cd
      have cl := lay_l w1 d ys l1 (by omega)
      have hrow : (ps.map (prt 0))[(k : Int).toNat]? = some [.val (.int .i64 s), bL 0 ys] := by simp [hxk]
      have w := IntWalk.i64_in (k + 1) (by omega)
      have py := pl_bytes ys
      dsimp only
      rw [hw1]
      ((conv => whnf); (repeat' ((first | (with_reducible first | refine qif_n ?_ | refine qif_t ‹_› ?_ | refine qif_f ‹_› ?_) | ((with_reducible refine qif_t ?_ ?_); focus decide) | ((with_reducible refine qif_f ?_ ?_); focus decide) | (with_reducible refine And.intro (orderOk_i ?ho) ?_; (case ho => kernel_rfl)) | ((with_reducible refine qif_t ?_ ?_); focus (simp [hlt]; done)) | ((with_reducible refine qif_f ?_ ?_); focus (simp [hlt]; done)) | (with_reducible first | refine qif_i (fun _ => ?_) (fun _ => ?_) | refine frcVs_i ?_ | refine frcRs_i ?_) | (refine qCase_i (idxL rfl rfl rfl rfl rfl rfl (by omega) hrow) ?_) | ((with_reducible refine qCall.pure (cd) ?_ ?_ ?_ ?_); rotate_left 4; exact trivial; exact plT; exact plT)) <;> (conv => whnf))))
      ((with_reducible refine qCall.of (cl) [(1, 2), (2, 3), (3, 4), (4, 5)] [(0, 0)] [] [] [(2, .live ⟨1, 129, [[.sl 4 0 2048]]⟩), (3, .live ⟨1, 31, [[.sl 5 0 2048]]⟩), (4, .live ⟨1, 4, (layW w1 d ys).map hasR⟩), (5, .live ⟨1, 5, (layW w1 d ys).map allR⟩)] (.tup []) ?hk ?_); (case hk => rfl); (conv => whnf); (repeat (refine And.intro ?_ ?_; exact sideT; (conv => whnf))); (fail_if_success (with_reducible first | refine And.intro (eqv_i ?_) ?_ | refine And.intro (ren_i ?_) ?_)))
      ((conv => whnf); (repeat' ((first | (with_reducible first | refine qif_n ?_ | refine qif_t ‹_› ?_ | refine qif_f ‹_› ?_) | ((with_reducible refine qif_t ?_ ?_); focus decide) | ((with_reducible refine qif_f ?_ ?_); focus decide) | (with_reducible refine And.intro (orderOk_i ?ho) ?_; (case ho => kernel_rfl)) | (with_reducible first | refine qif_i (fun _ => ?_) (fun _ => ?_) | refine frcVs_i ?_ | refine frcRs_i ?_)) <;> (conv => whnf))))
      refine ⟨k + 1, by omega, by omega, ?_⟩
      rw [hs]
      (refine qConv.of hB [(1, 1), (2, 2), (3, 3), (4, 4), (5, 5)] [(0, 0)] [] (by rfl) ?_; focus ((conv => whnf); (repeat (refine And.intro ?_ ?_; rotate_left; (conv => whnf))); exact trivial; all_goals (try exact andT)))
      all_goals first | rfl | (exact rowsT) | exact vals_ren _ (fun o : Option Int => .bool o.isSome) rfl | exact vals_ren _ (fun o : Option Int => .int .u8 (o.getD 0)) rfl | (simp [w]; done)
    · have : k = ps.length := by omega
      subst this
      rw [List.take_length] at hw1
      dsimp only
      rw [List.take_length, hw1]
      have cl := lay_l w1 at_ xs l1 ha
      ((conv => whnf); (repeat' ((first | (with_reducible first | refine qif_n ?_ | refine qif_t ‹_› ?_ | refine qif_f ‹_› ?_) | ((with_reducible refine qif_t ?_ ?_); focus decide) | ((with_reducible refine qif_f ?_ ?_); focus decide) | (with_reducible refine And.intro (orderOk_i ?ho) ?_; (case ho => kernel_rfl)) | ((with_reducible refine qif_t ?_ ?_); focus (simp [hlt]; done)) | ((with_reducible refine qif_f ?_ ?_); focus (simp [hlt]; done)) | (with_reducible first | refine qif_i (fun _ => ?_) (fun _ => ?_) | refine frcVs_i ?_ | refine frcRs_i ?_)) <;> (conv => whnf))))
      ((with_reducible refine qCall.of (cl) [(1, 2), (2, 3), (3, 4), (4, 5)] [(0, 0)] [] [] [(2, .live ⟨1, 129, [[.sl 4 0 2048]]⟩), (3, .live ⟨1, 31, [[.sl 5 0 2048]]⟩), (4, .live ⟨1, 4, (layW w1 at_ xs).map hasR⟩), (5, .live ⟨1, 5, (layW w1 at_ xs).map allR⟩)] (.tup []) ?hk ?_); (case hk => rfl); (conv => whnf); (repeat (refine And.intro ?_ ?_; exact sideT; (conv => whnf))); (fail_if_success (with_reducible first | refine And.intro (eqv_i ?_) ?_ | refine And.intro (ren_i ?_) ?_)))
      ((conv => whnf); (repeat' ((first | (with_reducible first | refine qif_n ?_ | refine qif_t ‹_› ?_ | refine qif_f ‹_› ?_) | ((with_reducible refine qif_t ?_ ?_); focus decide) | ((with_reducible refine qif_f ?_ ?_); focus decide) | (with_reducible refine And.intro (orderOk_i ?ho) ?_; (case ho => kernel_rfl)) | (with_reducible first | refine qif_i (fun _ => ?_) (fun _ => ?_) | refine frcVs_i ?_ | refine frcRs_i ?_)) <;> (conv => whnf))))
      (refine qConv.of hB [(4, 1), (5, 2)] [(0, 0)] [] (by rfl) ?_; focus ((conv => whnf); (repeat (refine And.intro ?_ ?_; rotate_left; (conv => whnf))); exact trivial; all_goals (try exact andT)))
      all_goals first | rfl | (exact rowsT) | exact vals_ren _ (fun o : Option Int => .bool o.isSome) rfl | exact vals_ren _ (fun o : Option Int => .int .u8 (o.getD 0)) rfl
end Go.Proofs.Ytceohcbokbalhaa

/- The runs of a window: plain law. No condition. -/
namespace Go.Proofs.Ytceohcbokbalhaa
open Go.RowKit
set_option linter.unusedVariables false
set_option linter.unusedSimpArgs false
abbrev Win := List (Option Int)
def isS (w : Win) (i : Nat) : Bool := (w.getD i none).isSome
def vals (w : Win) : List Int := w.map fun o => o.getD 0
def seg (w : Win) (j m : Nat) : List Int := ((vals w).drop j).take (m - j)
def addLast (c : Int) : List Pt → List Pt
  | [] => []
  | [p] => [(p.1, p.2 ++ [c])]
  | p :: q :: l => p :: addLast c (q :: l)
theorem addLast_snoc (c : Int) (p : Pt) : ∀ l : List Pt, addLast c (l ++ [p]) = l ++ [(p.1, p.2 ++ [c])]
  | [] => rfl
  | [q] => rfl
  | q :: r :: l => by
    have := addLast_snoc c p (r :: l)
    simp only [List.cons_append] at this ⊢
    rw [addLast, this]
def runsT (nx : Int) (w : Win) (t : Nat) : Nat → List Pt
  | 0 => []
  | n + 1 => if n < t then [] else if isS w n then (if t < n ∧ isS w (n - 1) then addLast ((vals w).getD n 0) (runsT nx w t n) else runsT nx w t n ++ [(wadd nx n, [(vals w).getD n 0])]) else runsT nx w t n
theorem runsT_le (nx : Int) (w : Win) (t : Nat) : ∀ n, n ≤ t → runsT nx w t n = []
  | 0, _ => rfl
  | n + 1, h => by rw [runsT, if_pos (by omega)]
theorem runsT_no {nx : Int} {w : Win} {t n : Nat} (h : isS w n = false) : runsT nx w t (n + 1) = runsT nx w t n := by
  rw [runsT]
  split
  · rw [runsT_le nx w t n (by omega)]
  · simp [h]
theorem runsT_y1 {nx : Int} {w : Win} {t n : Nat} (ht : t < n) (hs : isS w n = true) (hp : isS w (n - 1) = true) : runsT nx w t (n + 1) = addLast ((vals w).getD n 0) (runsT nx w t n) := by
  rw [runsT, if_neg (by omega), hs, if_pos rfl, if_pos ⟨ht, hp⟩]
theorem runsT_y2 {nx : Int} {w : Win} {t n : Nat} (ht : t ≤ n) (hs : isS w n = true) (hp : t = n ∨ isS w (n - 1) = false) : runsT nx w t (n + 1) = runsT nx w t n ++ [(wadd nx n, [(vals w).getD n 0])] := by
  rw [runsT, if_neg (by omega), hs, if_pos rfl, if_neg (by rintro ⟨h1, h2⟩; rcases hp with h | h; omega; rw [h] at h2; cases h2)]
theorem vals_len (w : Win) : (vals w).length = w.length := by simp [vals]
theorem seg_one {w : Win} {j : Nat} (h : j < w.length) : seg w j (j + 1) = [(vals w).getD j 0] := by
  have h' : j < (vals w).length := by rw [vals_len]; exact h
  unfold seg
  rw [show j + 1 - j = 0 + 1 by omega, List.drop_eq_getElem_cons h', List.take_succ_cons, List.take_zero]
  simp [List.getD, h']
theorem seg_snoc {w : Win} {j m : Nat} (hj : j ≤ m) (h : m < w.length) : seg w j (m + 1) = seg w j m ++ [(vals w).getD m 0] := by
  have h' : m < (vals w).length := by rw [vals_len]; exact h
  unfold seg
  rw [show m + 1 - j = (m - j) + 1 by omega, List.take_add_one]
  congr 1
  rw [List.getElem?_drop, show j + (m - j) = m by omega]
  simp [List.getD, h']
theorem runsT_run {nx : Int} {w : Win} {t j : Nat} (ht : t ≤ j) (hb : j = t ∨ isS w (j - 1) = false) : ∀ m, j < m → m ≤ w.length → (∀ i, j ≤ i → i < m → isS w i = true) → runsT nx w t m = runsT nx w t j ++ [(wadd nx j, seg w j m)]
  | 0, h, _, _ => by omega
  | m + 1, h, hl, hs => by
    rw [runsT, if_neg (by omega), hs m (by omega) (by omega), if_pos rfl]
    by_cases e : m = j
    · subst e
      rw [if_neg (by rintro ⟨h1, h2⟩; rcases hb with rfl | hb; omega; rw [hb] at h2; cases h2), seg_one (by omega)]
    · rw [if_pos ⟨by omega, hs (m - 1) (by omega) (by omega)⟩, runsT_run ht hb m (by omega) (by omega) (fun i h1 h2 => hs i h1 (by omega)), addLast_snoc, seg_snoc (by omega) (by omega)]
theorem runsT_skip {nx : Int} {w : Win} {t j : Nat} : ∀ m, j ≤ m → (∀ i, j ≤ i → i < m → isS w i = false) → runsT nx w t m = runsT nx w t j
  | 0, h, _ => by have : j = 0 := by omega
                  rw [this]
  | m + 1, h, hs => by
    by_cases e : m + 1 = j
    · rw [e]
    · rw [runsT_no (hs m (by omega) (by omega)), runsT_skip m (by omega) (fun i h1 h2 => hs i h1 (by omega))]
theorem runsT_ne {nx : Int} {w : Win} {t n : Nat} (ht : t ≤ n) (hs : isS w n = true) : runsT nx w t (n + 1) ≠ [] := by
  rw [runsT, if_neg (by omega), hs, if_pos rfl]
  split
  · rename_i h
    obtain ⟨h1, h2⟩ := h
    have := runsT_ne (nx := nx) (t := t) (n := n - 1) (by omega) h2
    rw [show n - 1 + 1 = n by omega] at this
    obtain ⟨l, p, e⟩ : ∃ l p, runsT nx w t n = l ++ [p] := ⟨_, _, (List.dropLast_concat_getLast this).symm⟩
    rw [e, addLast_snoc]
    simp
  · simp
termination_by n
decreasing_by omega
theorem runsT_split {nx : Int} {w : Win} {t : Nat} (ht : isS w t = false) (hs : ∀ i, i < t → isS w i = true) (hl : t ≤ w.length) : ∀ n, t ≤ n → runsT nx w 0 n = (if t = 0 then [] else [(wadd nx 0, seg w 0 t)]) ++ runsT nx w t n
  | 0, h => by have : t = 0 := by omega
               subst this; rfl
  | n + 1, h => by
    by_cases e : n + 1 = t
    · rw [runsT_le nx w t _ (by omega), if_neg (by omega), ← e, runsT_run (j := 0) (Nat.le_refl _) (.inl rfl) (n + 1) (by omega) (by omega) (fun i _ h2 => hs i (by omega)), runsT_le nx w 0 0 (Nat.le_refl _)]
      rfl
    · have ih := runsT_split (nx := nx) ht hs hl n (by omega)
      cases hn : isS w n with
      | false => rw [runsT_no hn, runsT_no hn, ih]
      | true =>
        have hnt : n ≠ t := by rintro rfl; rw [ht] at hn; cases hn
        cases hp : isS w (n - 1) with
        | false => rw [runsT_y2 (by omega) hn (.inr hp), runsT_y2 (by omega) hn (.inr hp), ih, List.append_assoc]
        | true =>
          have h1 : n - 1 ≠ t := by intro e2; rw [e2, ht] at hp; cases hp
          have hne := runsT_ne (nx := nx) (t := t) (n := n - 1) (by omega) hp
          rw [show n - 1 + 1 = n by omega] at hne
          obtain ⟨l, p, e⟩ : ∃ l p, runsT nx w t n = l ++ [p] := ⟨_, _, (List.dropLast_concat_getLast hne).symm⟩
          rw [runsT_y1 (by omega) hn hp, runsT_y1 (by omega) hn hp, ih, e, ← List.append_assoc, addLast_snoc, addLast_snoc, List.append_assoc]
theorem addLast_len (c : Int) : ∀ l : List Pt, (addLast c l).length = l.length
  | [] => rfl
  | [p] => rfl
  | p :: q :: l => by rw [addLast, List.length_cons, addLast_len c (q :: l)]; rfl
theorem runsT_len (nx : Int) (w : Win) (t : Nat) : ∀ n, (runsT nx w t n).length ≤ n
  | 0 => Nat.le_refl _
  | n + 1 => by
    have := runsT_len nx w t n
    rw [runsT]
    split
    · simp
    · split
      · split
        · rw [addLast_len]; omega
        · simp; omega
      · omega
end Go.Proofs.Ytceohcbokbalhaa

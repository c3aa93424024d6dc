/- Contracts and plain laws, one behind the other: AhParts, AhReasm, AhFill, AhRuns, AhRunsX. Conditions are said at each. -/
import Derived.Test.YtceohcbokbalhaaGreatPkAA
namespace Go.Proofs.YtceohcbokbalhaaGreat
open Go.RowKit
set_option linter.unusedVariables false
set_option linter.unusedSimpArgs false
set_option maxRecDepth 100000
set_option maxHeartbeats 4000000
def Cells (q:Rn) (h:Hp) (l l' : List AV):Prop:=l.length=l'.length ∧ ∀ (j:Nat) (c c' : AV),l[j]?=some c→l'[j]?=some c' → Ren q h c c'
theorem Cells.nil {q:Rn} {h:Hp} : Cells q h [] []:=⟨rfl,by simp⟩
theorem Cells.cons {q:Rn} {h:Hp} {a a' : AV} {l l' : List AV} (h1:Ren q h a a') (h2:Cells q h l l'):Cells q h (a::l) (a' :: l'):=by
 refine ⟨by simp [h2.1],fun j c c' x y=>?_⟩
 rcases j with _|j
 ·simp at x y;subst x y;exact h1
 ·exact h2.2 j c c' (by simpa using x) (by simpa using y)
theorem RowsRen.mapF {α:Type} {q:Rn} {h:Hp} (l:List α) (f g:α→List AV) (H : ∀ x∈l,Cells q h (f x) (g x)):RowsRen q h (l.map f) (l.map g):=by
 refine ⟨by simp,fun i row row' a b=>?_,fun i j row row' c c' a b d e=>?_⟩
 ·simp only [List.getElem?_map,Option.map_eq_some_iff] at a b
  obtain ⟨x,hx,rfl⟩:=a
  obtain ⟨y,hy,rfl⟩:=b
  rw [hx] at hy;cases hy
  exact (H x (List.mem_of_getElem? hx)).1
 ·simp only [List.getElem?_map,Option.map_eq_some_iff] at a b
  obtain ⟨x,hx,rfl⟩:=a
  obtain ⟨y,hy,rfl⟩:=b
  rw [hx] at hy;cases hy
  exact (H x (List.mem_of_getElem? hx)).2 j c c' d e
theorem RowsRen.app {q:Rn} {h:Hp} {a a' b b' : List (List AV)} (h1:RowsRen q h a a') (h2:RowsRen q h b b'):RowsRen q h (a ++ b) (a' ++ b'):=by
 have hl:=h1.1
 refine ⟨by simp [h1.1,h2.1],fun i row row' x y=>?_,fun i j row row' c c' x y d e=>?_⟩
 ·rcases Nat.lt_or_ge i a.length with hi|hi
  ·rw [List.getElem?_append_left hi] at x;rw [List.getElem?_append_left (by omega)] at y
   exact h1.2.1 i row row' x y
  ·rw [List.getElem?_append_right hi] at x;rw [List.getElem?_append_right (by omega), ← hl] at y
   exact h2.2.1 _ row row' x y
 ·rcases Nat.lt_or_ge i a.length with hi|hi
  ·rw [List.getElem?_append_left hi] at x;rw [List.getElem?_append_left (by omega)] at y
   exact h1.2.2 i j row row' c c' x y d e
  ·rw [List.getElem?_append_right hi] at x;rw [List.getElem?_append_right (by omega), ← hl] at y
   exact h2.2.2 _ j row row' c c' x y d e
theorem RowsRen.one {q:Rn} {h:Hp} {a b:List AV} (H:Cells q h a b):RowsRen q h [a] [b]:=by
 simpa using RowsRen.mapF (q:=q) (h:=h) [()] (fun _=>a) (fun _=>b) fun _ _=>H
theorem Ren.sl1 {L I F:Prs} {h:Hp} {b b' i n:Nat} (h0:L.has b b' = true):Ren (qOf L I F) h (.sl b i n) (.sl b' i n) := .sl _ _ _ _ ((Prs.has_iff L b b').1 h0)
theorem Ren.ptr1 {L I F:Prs} {h:Hp} {b b' i n:Nat} (h0:L.has b b' = true):Ren (qOf L I F) h (.ptr b i n) (.ptr b' i n) := .ptr _ _ _ _ ((Prs.has_iff L b b').1 h0)
theorem RowsRen.cast {q:Rn} {h:Hp} {a b c:List (List AV)} (e:a=b) (H:RowsRen q h b c):RowsRen q h a c:=e ▸ H
theorem RowsRen.castR {q:Rn} {h:Hp} {a b c:List (List AV)} (e:b=c) (H:RowsRen q h a b):RowsRen q h a c:=e ▸ H
theorem aH {q:Rn} {h:Hp} (xs:List Int):RowsRen q h (xs.map bR) (xs.map bR) :=
 RowsRen.mapF xs bR bR fun x _=>⟨rfl,fun j c c' a b=>by rw [a] at b;cases b;rcases j with _|j<;>simp at a;subst a;exact .val _⟩
theorem Ren.gg {L I F:Prs} {h:Hp} {r r' : Nat} (h0:I.has r r' = true) (xs:List Int):Ren (qOf L I F) h (gL r xs) (gL r' xs):=by
 obtain ⟨a,b,c⟩:=aH (q:=qOf L I F) (h:=h) xs
 exact .glist _ _ _ _ _ ((Prs.has_iff I r r').1 h0) a b c
theorem Ren.ll {L I F:Prs} {h:Hp} {r r' : Nat} (h0:I.has r r' = true) (xs:List Int):Ren (qOf L I F) h (bL r xs) (bL r' xs):=by
 obtain ⟨a,b,c⟩:=aH (q:=qOf L I F) (h:=h) xs
 exact .list _ _ _ _ _ ((Prs.has_iff I r r').1 h0) a b c
theorem Ren.g2 {L I F:Prs} {h:Hp} {r r' : Nat} (h0:I.has r r' = true) (xs:List Int):Ren (qOf L I F) h (gL r xs) (bL r' xs) := .gl _ _ _ _ (Ren.ll h0 xs)
abbrev Pt:=Int × List Int
abbrev prt (r:Nat) (p:Pt):List AV:=[.val (.int .i64 p.1),bL r p.2]
abbrev prg (r:Nat) (p:Pt):List AV:=[.val (.int .i64 p.1),gL r p.2]
theorem aI {L I F:Prs} {h:Hp} {r r' : Nat} (h0:I.has r r' = true) (ps:List Pt):RowsRen (qOf L I F) h (ps.map (prg r)) (ps.map (prg r')) :=
 RowsRen.mapF ps _ _ fun p _ => .cons (.val _) (.cons (Ren.gg h0 p.2) .nil)
theorem uL {L I F:Prs} {h:Hp} {r r' : Nat} (h0:I.has r r' = true) (ps:List Pt):RowsRen (qOf L I F) h (ps.map (prg r)) (ps.map (prt r')) :=
 RowsRen.mapF ps _ _ fun p _ => .cons (.val _) (.cons (Ren.g2 h0 p.2) .nil)
theorem br {L I F:Prs} {h:Hp} {r r' : Nat} (h0:I.has r r' = true) (ps:List Pt):RowsRen (qOf L I F) h (ps.map (prt r)) (ps.map (prt r')) :=
 RowsRen.mapF ps _ _ fun p _ => .cons (.val _) (.cons (Ren.ll h0 p.2) .nil)
theorem gV {L I F:Prs} {h:Hp} {r r' : Nat} (h0:I.has r r' = true) (p:Pt):RowsRen (qOf L I F) h [prg r p] [prg r' p]:=aI h0 [p]
theorem kF {α:Type} {ps:List Pt} {k:Nat} {p:Pt} (f:Pt→α) (h:ps[k]?=some p):(ps.take (k + 1)).map f=(ps.take k).map f ++ [f p]:=by
 rw [bj h];simp
theorem ar (ps:List Pt):PlRows (ps.map (prt 0)):=PlRows.mapF ps _ fun x _=>plT
def dq (ps:List Pt):Prop:=ps.length≤100000000 ∧ ∀ p∈ps,p.2.length≤100000000
theorem qW (s:Int) (xs:List Int) (hx:xs.length≤100000000):ACallL Tryz.prog 140 [.agg [.val (.int .i64 s),bL 0 xs]] [.perm] (.agg [.val (.int .i64 s),gL 1 xs]) [.perm,.uniq]:=by
 refine ACallL.of_ev af Tryz.func140 rfl (fun a w=>Tryz.call140 a w) (congrArg Array.toList Tryz.results140) Tryz.ntmps140 fun B hB=>?_
 ((conv=>whnf);(repeat' ((first|refine gT ?_|(with_reducible refine ab (fun _=>?_) (fun _=>?_)))<;>(conv=>whnf))))
 ((with_reducible refine qcf (fun r=>gL r xs) (bK xs hx) [(0,0)] [] ?_);refine sT ?_)
 ((conv=>whnf);(repeat' ((first|refine gT ?_|(with_reducible refine ab (fun _=>?_) (fun _=>?_)))<;>(conv=>whnf))))
 (refine qcv hB [] [(0,0),(4,1)] [] ?_;repeat' (with_reducible first|exact trivial|refine And.intro ?_ ?_))
 all_goals first|rfl|exact aM rfl rfl
theorem oZ (ps:List Pt) (hp:dq ps):ACallL Tryz.prog 120 [.list 0 2 (ps.map (prt 0))] [.perm] (.glist 1 2 (ps.map (prg 2))) [.perm,.uniq,.uniq]:=by
 obtain ⟨hl,hb⟩:=hp
 refine ACallL.of_ev af Tryz.func120 rfl (fun a w=>Tryz.call120 a w) (congrArg Array.toList Tryz.results120) Tryz.ntmps120 fun B hB=>?_
 ((conv=>whnf);(repeat' ((first|refine gT ?_|(with_reducible refine ab (fun _=>?_) (fun _=>?_)))<;>(conv=>whnf))))
 refine qAW.loop af (X:=Nat) (fun k=>ap 20 [(0,.list 0 2 (ps.map (prt 0))),(3,.glist 1 2 ((ps.take k).map (prg 2))),(4,.val (.int .i64 k))]) (fun k=>[.perm,.uniq,.uniq]) (fun k=>k≤ps.length) (fun k=>ps.length - k) 0 (Nat.zero_le _) ?_ ?_
 ·(refine qcv hB [] [(0,0)] [] ?_;repeat' (with_reducible first|exact trivial|refine And.intro ?_ ?_))
  all_goals first|rfl|exact br rfl ps
 ·intro k hk
  have hlen:(ps.map (prt 0)).length=ps.length:=by simp
  have htl:((ps.take k).map (prg 2)).length=k:=by simp;omega
  by_cases hlt:k < ps.length
  ·obtain ⟨⟨s,xs⟩,hxk⟩ : ∃ p,ps[k]?=some p:=⟨_,List.getElem?_eq_getElem hlt⟩
   have hx:=hb _ (List.mem_of_getElem? hxk)
   have hrow:(ps.map (prt 0))[(k:Int).toNat]?=some [.val (.int .i64 s),bL 0 xs]:=by simp [hxk]
   have w:=IntWalk.i64_in (k + 1) (by omega)
   ((conv=>whnf);(repeat' ((first|refine gT ?_|((with_reducible refine ai ?_ ?_);focus (simp [hlen,hlt];done))|((with_reducible refine aj ?_ ?_);focus (simp [hlen,hlt];done))|(with_reducible refine ab (fun _=>?_) (fun _=>?_))|(refine ak (idxL rfl rfl rfl rfl rfl rfl (by omega) hrow) ?_))<;>(conv=>whnf))))
   ((with_reducible refine qcf (fun r => .agg [.val (.int .i64 s),gL r xs]) (qW s xs hx) [(0,0)] [] ?_);refine sT ?_)
   ((conv=>whnf);(repeat' ((first|refine gT ?_|(with_reducible refine ab (fun _=>?_) (fun _=>?_))|(refine ak (apG (nb:=32) rfl rfl rfl rfl rfl rfl rfl rfl rfl rfl (by decide) rfl (by rw [htl];simp;omega)) ?_))<;>(conv=>whnf))))
   refine ⟨k + 1,by omega,by omega,?_⟩
   (refine qcv hB [] [(0,0),(5,1),(2,2),(3,2)] [] ?_;repeat' (with_reducible first|exact trivial|refine And.intro ?_ ?_))
   all_goals first|rfl|exact br rfl ps|(rw [kF (prg 2) hxk];exact (aI rfl _).app (gV rfl (s,xs)))|(simp [w];done)
  ·((conv=>whnf);(repeat' ((first|refine gT ?_|((with_reducible refine ai ?_ ?_);focus (simp [hlen,hlt];done))|((with_reducible refine aj ?_ ?_);focus (simp [hlen,hlt];done))|(with_reducible refine ab (fun _=>?_) (fun _=>?_)))<;>(conv=>whnf))))
   have:k=ps.length:=by omega
   subst this
   (refine qcv hB [] [(0,0),(1,1),(2,2)] [] ?_;repeat' (with_reducible first|exact trivial|refine And.intro ?_ ?_))
   all_goals first|rfl|(rw [List.take_length];exact aI rfl ps)
theorem oc (n:Int) (ps:List Pt) (hp:dq ps):ACallL Tryz.prog 82 [.agg [.val (.int .i64 n),.list 0 2 (ps.map (prt 0))]] [.perm] (.agg [.val (.int .i64 n),.glist 1 2 (ps.map (prg 2))]) [.perm,.uniq,.uniq]:=by
 refine ACallL.of_ev af Tryz.func82 rfl (fun a w=>Tryz.call82 a w) (congrArg Array.toList Tryz.results82) Tryz.ntmps82 fun B hB=>?_
 ((conv=>whnf);(repeat' ((first|refine gT ?_|(with_reducible refine ab (fun _=>?_) (fun _=>?_)))<;>(conv=>whnf))))
 ((with_reducible refine qco (oZ ps hp) [] [(0,0)] [] [(1,4),(2,5)] [(4,.uniq),(5,.uniq)] (.glist 4 2 (ps.map (prg 5))) ?_);refine sT ?_)
 ((conv=>whnf);(repeat' ((first|refine gT ?_|(with_reducible refine ab (fun _=>?_) (fun _=>?_)))<;>(conv=>whnf))))
 (refine qcv hB [] [(0,0),(4,1),(5,2)] [] ?_;repeat' (with_reducible first|exact trivial|refine And.intro ?_ ?_))
 all_goals first|rfl|exact aI rfl ps
theorem tC (p q:Pt) (hp:p.2.length≤100000000):ACallL Tryz.prog 156 [.agg (prt 0 p),.agg (prt 0 q)] [.perm] (.val (.bool (p == q))) [.perm]:=by
 obtain ⟨s,xs⟩:=p
 obtain ⟨t,ys⟩:=q
 have e:((s,xs) == (t,ys))=(s == t && xs == ys):=rfl
 rw [e]
 by_cases hst:s=t
 ·subst hst
  refine ACallL.of_ev af Tryz.func156 rfl (fun a w=>Tryz.call156 a w) (congrArg Array.toList Tryz.results156) Tryz.ntmps156 fun B hB=>?_
  ((conv=>whnf);(repeat' ((first|refine gT ?_|((with_reducible refine ai ?_ ?_);focus (simp;done))|((with_reducible refine aj ?_ ?_);focus (simp;done))|(with_reducible refine ab (fun _=>?_) (fun _=>?_)))<;>(conv=>whnf))))
  ((with_reducible refine qcr (gm xs ys hp) [(0,0)] [] ?_);refine sT ?_)
  ((conv=>whnf);(repeat' ((first|refine gT ?_|((with_reducible refine ai ?_ ?_);focus (simp;done))|((with_reducible refine aj ?_ ?_);focus (simp;done))|(with_reducible refine ab (fun _=>?_) (fun _=>?_)))<;>(conv=>whnf))))
  (refine qcv hB [] [(0,0)] [] ?_;repeat' (with_reducible first|exact trivial|refine And.intro ?_ ?_))
  all_goals simp
 ·have hb:(s == t)=false:=by simpa using hst
  refine ACallL.of_ev af Tryz.func156 rfl (fun a w=>Tryz.call156 a w) (congrArg Array.toList Tryz.results156) Tryz.ntmps156 fun B hB=>?_
  ((conv=>whnf);(repeat' ((first|refine gT ?_|((with_reducible refine ai ?_ ?_);focus (simp [hst];done))|((with_reducible refine aj ?_ ?_);focus (simp [hst];done))|(with_reducible refine ab (fun _=>?_) (fun _=>?_)))<;>(conv=>whnf))))
  (refine qcv hB [] [(0,0)] [] ?_;repeat' (with_reducible first|exact trivial|refine And.intro ?_ ?_))
  all_goals simp [hst]
theorem nE {α:Type} [BEq α] [LawfulBEq α] {xs ys:List α} (h:xs.length≠ys.length):(xs == ys)=false:=by
 rw [beq_eq_false_iff_ne];rintro rfl;exact h rfl
theorem oX {α:Type} [BEq α] [LawfulBEq α] {xs ys:List α} {k:Nat} {x y:α} (hx:xs[k]?=some x) (hy:ys[k]?=some y) (h:(x == y)=false):(xs == ys)=false:=by
 rw [beq_eq_false_iff_ne];rintro rfl;rw [hx] at hy;cases hy;simp at h
theorem sQ (ps qs:List Pt) (hp:dq ps):ACallL Tryz.prog 148 [.list 0 2 (ps.map (prt 0)),.list 0 2 (qs.map (prt 0))] [.perm] (.val (.bool (ps == qs))) [.perm]:=by
 obtain ⟨hl0,hb⟩:=hp
 have lx:(ps.map (prt 0)).length=ps.length:=by simp
 have ly:(qs.map (prt 0)).length=qs.length:=by simp
 have px:=ar ps
 have py:=ar qs
 by_cases hl:ps.length=qs.length
 ·have hl' : (qs.length:Int)=ps.length:=by omega
  refine ACallL.of_ev af Tryz.func148 rfl (fun a w=>Tryz.call148 a w) (congrArg Array.toList Tryz.results148) Tryz.ntmps148 fun B hB=>?_
  ((conv=>whnf);(repeat' ((first|refine gT ?_|((with_reducible refine ai ?_ ?_);focus (simp [lx,ly,hl'];done))|((with_reducible refine aj ?_ ?_);focus (simp [lx,ly,hl'];done))|(with_reducible refine ab (fun _=>?_) (fun _=>?_)))<;>(conv=>whnf))))
  refine qAW.loop af (X:=Nat) (fun k=>ap 27 [(0,.list 0 2 (ps.map (prt 0))),(1,.list 0 2 (qs.map (prt 0))),(5,.val (.int .i64 k))]) (fun k=>[.perm]) (fun k=>k≤ps.length ∧ ∀ i < k,ps[i]?=qs[i]?) (fun k=>ps.length - k) 0 ⟨Nat.zero_le _,by omega⟩ ?_ ?_
  ·(refine qcv hB [] [(0,0)] [] ?_;repeat' (with_reducible first|exact trivial|refine And.intro ?_ ?_))
   all_goals rfl
  ·rintro k ⟨hk,heq⟩
   by_cases hlt:k < ps.length
   ·obtain ⟨x,hxk⟩ : ∃ x,ps[k]?=some x:=⟨_,List.getElem?_eq_getElem hlt⟩
    obtain ⟨y,hyk⟩ : ∃ y,qs[k]?=some y:=⟨_,List.getElem?_eq_getElem (by omega)⟩
    have hrx:(ps.map (prt 0))[(k:Int).toNat]?=some (prt 0 x):=by simp [hxk]
    have hry:(qs.map (prt 0))[(k:Int).toNat]?=some (prt 0 y):=by simp [hyk]
    have w:=IntWalk.i64_in (k + 1) (by omega)
    obtain ⟨b,hxy⟩ : ∃ b,(x == y)=b:=⟨_,rfl⟩
    have hc:=tC x y (hb x (List.mem_of_getElem? hxk))
    rw [hxy] at hc
    cases b with
    | true =>
      ((conv=>whnf);(repeat' ((first|refine gT ?_|((with_reducible refine ai ?_ ?_);focus (simp [lx,hlt];done))|((with_reducible refine aj ?_ ?_);focus (simp [lx,hlt];done))|(with_reducible refine ab (fun _=>?_) (fun _=>?_))|(refine ak (idxL rfl rfl rfl rfl rfl rfl (by omega) hrx) ?_)|(refine ak (idxL rfl rfl rfl rfl rfl rfl (by omega) hry) ?_)|((with_reducible refine qcp (hc) ?_);refine pT ?_))<;>(conv=>whnf))))
      refine ⟨k + 1,⟨by omega,fun i hi=>?_⟩,by omega,?_⟩
      ·rcases Nat.lt_succ_iff_lt_or_eq.1 hi with h|rfl
       ·exact heq i h
       ·rw [hxk,hyk,eq_of_beq hxy]
      ·(refine qcv hB [] [(0,0)] [] ?_;repeat' (with_reducible first|exact trivial|refine And.intro ?_ ?_))
       all_goals first|rfl|(simp [w];done)
    | false =>
      ((conv=>whnf);(repeat' ((first|refine gT ?_|((with_reducible refine ai ?_ ?_);focus (simp [lx,hlt];done))|((with_reducible refine aj ?_ ?_);focus (simp [lx,hlt];done))|(with_reducible refine ab (fun _=>?_) (fun _=>?_))|(refine ak (idxL rfl rfl rfl rfl rfl rfl (by omega) hrx) ?_)|(refine ak (idxL rfl rfl rfl rfl rfl rfl (by omega) hry) ?_)|((with_reducible refine qcp (hc) ?_);refine pT ?_))<;>(conv=>whnf))))
      (refine qcv hB [] [(0,0)] [] ?_;repeat' (with_reducible first|exact trivial|refine And.intro ?_ ?_))
      rw [oX hxk hyk hxy]
   ·((conv=>whnf);(repeat' ((first|refine gT ?_|((with_reducible refine ai ?_ ?_);focus (simp [lx,hlt];done))|((with_reducible refine aj ?_ ?_);focus (simp [lx,hlt];done))|(with_reducible refine ab (fun _=>?_) (fun _=>?_)))<;>(conv=>whnf))))
    (refine qcv hB [] [(0,0)] [] ?_;repeat' (with_reducible first|exact trivial|refine And.intro ?_ ?_))
    have:ps=qs:=List.ext_getElem? fun i=>by
     by_cases hi:i < k
     ·exact heq i hi
     ·rw [List.getElem?_eq_none (by omega),List.getElem?_eq_none (by omega)]
    simp [this]
 ·have hl' : ¬ (ps.length:Int)=qs.length:=by omega
  refine ACallL.of_ev af Tryz.func148 rfl (fun a w=>Tryz.call148 a w) (congrArg Array.toList Tryz.results148) Tryz.ntmps148 fun B hB=>?_
  ((conv=>whnf);(repeat' ((first|refine gT ?_|((with_reducible refine ai ?_ ?_);focus (simp [lx,ly,hl'];done))|((with_reducible refine aj ?_ ?_);focus (simp [lx,ly,hl'];done))|(with_reducible refine ab (fun _=>?_) (fun _=>?_)))<;>(conv=>whnf))))
  (refine qcv hB [] [(0,0)] [] ?_;repeat' (with_reducible first|exact trivial|refine And.intro ?_ ?_))
  rw [nE hl]
theorem qf (n m:Int) (ps qs:List Pt) (hp:dq ps):ACallL Tryz.prog 139 [.agg [.val (.int .i64 n),.list 0 2 (ps.map (prt 0))],.agg [.val (.int .i64 m),.list 0 2 (qs.map (prt 0))]] [.perm] (.val (.bool (n == m && ps == qs))) [.perm]:=by
 have px:=ar ps
 have py:=ar qs
 by_cases hst:n=m
 ·subst hst
  refine ACallL.of_ev af Tryz.func139 rfl (fun a w=>Tryz.call139 a w) (congrArg Array.toList Tryz.results139) Tryz.ntmps139 fun B hB=>?_
  ((conv=>whnf);(repeat' ((first|refine gT ?_|((with_reducible refine ai ?_ ?_);focus (simp;done))|((with_reducible refine aj ?_ ?_);focus (simp;done))|(with_reducible refine ab (fun _=>?_) (fun _=>?_)))<;>(conv=>whnf))))
  ((with_reducible refine qcr (sQ ps qs hp) [(0,0)] [] ?_);refine sT ?_)
  ((conv=>whnf);(repeat' ((first|refine gT ?_|((with_reducible refine ai ?_ ?_);focus (simp;done))|((with_reducible refine aj ?_ ?_);focus (simp;done))|(with_reducible refine ab (fun _=>?_) (fun _=>?_)))<;>(conv=>whnf))))
  (refine qcv hB [] [(0,0)] [] ?_;repeat' (with_reducible first|exact trivial|refine And.intro ?_ ?_))
  all_goals simp
 ·refine ACallL.of_ev af Tryz.func139 rfl (fun a w=>Tryz.call139 a w) (congrArg Array.toList Tryz.results139) Tryz.ntmps139 fun B hB=>?_
  ((conv=>whnf);(repeat' ((first|refine gT ?_|((with_reducible refine ai ?_ ?_);focus (simp [hst];done))|((with_reducible refine aj ?_ ?_);focus (simp [hst];done))|(with_reducible refine ab (fun _=>?_) (fun _=>?_)))<;>(conv=>whnf))))
  (refine qcv hB [] [(0,0)] [] ?_;repeat' (with_reducible first|exact trivial|refine And.intro ?_ ?_))
  all_goals simp [hst]
theorem tw (r:Nat) (ps:List Pt):(ps.map (prt r)).all (fun r=>r.all AV.one)=true:=by simp [AV.one,Value.oneCell']
theorem uE (p:Pt) (ps:List Pt) (hp:dq (p::ps)):ACallL Tryz.prog 142 [.list 0 2 ((p::ps).map (prt 0))] [.perm] (.sl 1 0 (ps.length + 1)) [.perm,.live ⟨2,88,(p::ps).map (prt 0)⟩]:=by
 have hl:=hp.1
 refine ACallL.of_ev af Tryz.func142 rfl (fun a w=>Tryz.call142 a w) (congrArg Array.toList Tryz.results142) Tryz.ntmps142 fun B hB=>?_
 ((conv=>whnf);(repeat' ((first|refine gT ?_|(with_reducible refine ab (fun _=>?_) (fun _=>?_))|(refine qOpen.nilF rfl rfl rfl rfl rfl ?_)|(refine ak (apS (nb:=32) rfl rfl rfl rfl rfl rfl rfl rfl rfl rfl (by decide) (tw 0 (_::_)) ⟨rfl,rfl,rfl⟩ rfl (by simp at hl ⊢; omega)) ?_))<;>(conv=>whnf))))
 (refine qcv hB [(2,1)] [(0,0)] [] ?_;repeat' (with_reducible first|exact trivial|refine And.intro ?_ ?_))
 all_goals first|rfl|exact br rfl _|(simp;done)
theorem qV:ACallL Tryz.prog 142 [.list 0 2 []] [.perm] (.glist 1 2 []) [.perm,.uniq]:=by
 refine ACallL.of_calls (fun a w=>Tryz.call142 a w) fun m w vs rel hl=>?_
 obtain ⟨v,rfl⟩ : ∃ v,vs = #[v]:=by
  obtain ⟨vs⟩:=vs
  match vs,hl.1 with
  | [v],_=>exact ⟨v,rfl⟩
 have hR:=hl.2 0 _ v rfl rfl
 clear hl
 have he:=fun (w:World) (a:Option Addr) (n c:Nat)=>Lib.run_eql_slice_nil (P:=Tryz.prog) w 44 88 a n c 0 0 Tryz.underlying44
 rcases R.nil_inv (h:=ofL [.perm]) (r:=0) trivial hR with rfl|⟨a,cap,rfl⟩
 ·clear hR rel
  go_enter Tryz.func142,Tryz.ntmps142
  go_wp2
  go_ret
  exact ⟨_,rfl,(by repeat (first|(with_reducible exact Below.refl _ _)|(with_reducible assumption)|((with_reducible refine Below.alloc ?_ ?_ _);rotate_left;focus (first|(simp;done)|(simp;omega)|omega))|((with_reducible refine Below.setCell ?_ ?_ _);rotate_left;focus (first|(simp;done)|(simp;omega)|omega))|(with_reducible refine Below.drew ?_)|((with_reducible apply Below.then);rotate_left;(with_reducible assumption)))),fun m' => .gnil _ _⟩
 ·clear hR rel
  go_enter Tryz.func142,Tryz.ntmps142
  go_wp2
  go_ret
  exact ⟨_,rfl,(by repeat (first|(with_reducible exact Below.refl _ _)|(with_reducible assumption)|((with_reducible refine Below.alloc ?_ ?_ _);rotate_left;focus (first|(simp;done)|(simp;omega)|omega))|((with_reducible refine Below.setCell ?_ ?_ _);rotate_left;focus (first|(simp;done)|(simp;omega)|omega))|(with_reducible refine Below.drew ?_)|((with_reducible apply Below.then);rotate_left;(with_reducible assumption)))),fun m' => .gemp _ _ _ trivial⟩
theorem uX {ps:List Pt} {k i:Nat} {p:Pt} (h:ps[k]?=some p) (r r' : Nat) (hi:i=k):((ps.take k).map (prg r) ++ (ps.drop k).map (prt 0)).set i (prg r' p)=(ps.take k).map (prg r) ++ ([prg r' p] ++ (ps.drop (k + 1)).map (prt 0)):=by
 subst hi
 have hk:i < ps.length:=(List.getElem?_eq_some_iff.1 h).1
 have e:ps.drop i=p::ps.drop (i + 1):=by
  rw [List.drop_eq_getElem_cons hk];rw [List.getElem?_eq_getElem hk] at h;cases h;rfl
 rw [e,List.map_cons,List.set_append_right _ _ (by simp;omega)]
 simp [Nat.min_eq_left (Nat.le_of_lt hk)]
theorem vv {ps:List Pt} {k:Nat} {p:Pt} (h:ps[k]?=some p) (r:Nat):((ps.take k).map (prg r) ++ (ps.drop k).map (prt 0))[0 + (k:Int).toNat]?=some (prt 0 p):=by
 have hk:k < ps.length:=(List.getElem?_eq_some_iff.1 h).1
 simp [List.getElem?_append,Nat.min_eq_left (Nat.le_of_lt hk),h]
theorem xX (n:Int) (ps:List Pt) (hp:dq ps):ACallL Tryz.prog 129 [.agg [.val (.int .i64 n),.list 0 2 (ps.map (prt 0))]] [.perm] (.agg [.val (.int .i64 n),.glist 1 2 (ps.map (prg 2))]) [.perm,.uniq,.uniq]:=by
 cases ps with
 | nil =>
   refine ACallL.of_ev af Tryz.func129 rfl (fun a w=>Tryz.call129 a w) (congrArg Array.toList Tryz.results129) Tryz.ntmps129 fun B hB=>?_
   ((conv=>whnf);(repeat' ((first|refine gT ?_|(with_reducible refine ab (fun _=>?_) (fun _=>?_)))<;>(conv=>whnf))))
   ((with_reducible refine qcf (fun r => .glist r 2 []) (qV) [(0,0)] [] ?_);refine sT ?_)
   ((conv=>whnf);(repeat' ((first|refine gT ?_|(with_reducible refine ab (fun _=>?_) (fun _=>?_))|(refine qAW.unroll af 1 ?_))<;>(conv=>whnf))))
   all_goals (refine qcv hB [] [(0,0),(3,1)] [] ?_;repeat' (with_reducible first|exact trivial|refine And.intro ?_ ?_))
   all_goals first|rfl|exact aI rfl []
 | cons p0 ps0 =>
   obtain ⟨ps,hps⟩ : ∃ ps,ps=p0::ps0:=⟨_,rfl⟩
   have hc:=uE p0 ps0 hp
   have hn:ps0.length + 1=ps.length:=by rw [hps];rfl
   rw [← hps] at hp hc ⊢
   rw [hn] at hc
   obtain ⟨hl,hb⟩:=hp
   refine ACallL.of_ev af Tryz.func129 rfl (fun a w=>Tryz.call129 a w) (congrArg Array.toList Tryz.results129) Tryz.ntmps129 fun B hB=>?_
   ((conv=>whnf);(repeat' ((first|refine gT ?_|(with_reducible refine ab (fun _=>?_) (fun _=>?_)))<;>(conv=>whnf))))
   ((with_reducible refine qco (hc) [] [(0,0)] [] [(1,3)] [(3,.live ⟨2,88,ps.map (prt 0)⟩)] (.sl 3 0 ps.length) ?_);refine sT ?_)
   ((conv=>whnf);(repeat' ((first|refine gT ?_|(with_reducible refine ab (fun _=>?_) (fun _=>?_)))<;>(conv=>whnf))))
   refine qAW.loop af (X:=Nat) (fun k=>ap 28 [(1,.ptr 1 0 0),(2,.ptr 2 0 0),(10,.val (.int .i64 ps.length)),(11,.val (.int .i64 k))])
    (fun k=>[.perm,.live ⟨2,46,[[.val (.int .i64 n),.sl 3 0 ps.length]]⟩,.live ⟨2,46,[[.val (.int .i64 0),.val (.slice none 0 0)]]⟩,.live ⟨2,88,(ps.take k).map (prg 4) ++ (ps.drop k).map (prt 0)⟩,.uniq])
    (fun k=>k≤ps.length) (fun k=>ps.length - k) 0 (Nat.zero_le _) ?_ ?_
   ·(refine qcv hB [(1,1),(2,2),(3,3)] [(0,0)] [] ?_;repeat' (with_reducible first|exact trivial|refine And.intro ?_ ?_))
    all_goals first|rfl|(exact ao)|exact br rfl ps
   ·intro k hk
    by_cases hlt:k < ps.length
    ·obtain ⟨⟨s,xs⟩,hxk⟩ : ∃ p,ps[k]?=some p:=⟨_,List.getElem?_eq_getElem hlt⟩
     have hx:=hb _ (List.mem_of_getElem? hxk)
     have hrow:=vv hxk 4
     have w:=IntWalk.i64_in (k + 1) (by omega)
     ((conv=>whnf);(repeat' ((first|refine gT ?_|((with_reducible refine ai ?_ ?_);focus (simp [hlt];done))|((with_reducible refine aj ?_ ?_);focus (simp [hlt];done))|(with_reducible refine ab (fun _=>?_) (fun _=>?_))|(refine ak (idxS rfl rfl rfl rfl rfl rfl rfl rfl (by omega)) ?_)|(refine ak (ldR rfl rfl rfl rfl rfl hrow rfl) ?_))<;>(conv=>whnf))))
     ((with_reducible refine qcf (fun r=>gL r xs) (eL xs hx) [(0,0)] [] ?_);refine sT ?_)
     ((conv=>whnf);(repeat' ((first|refine gT ?_|(with_reducible refine ab (fun _=>?_) (fun _=>?_))|(refine ak (idxS rfl rfl rfl rfl rfl rfl rfl rfl (by omega)) ?_)|(refine ak (stR rfl rfl rfl rfl hrow rfl rfl (Nat.le_of_ble_eq_true rfl)) ?_))<;>(conv=>whnf))))
     refine ⟨k + 1,by omega,by omega,?_⟩
     (refine qcv hB [(1,1),(2,2),(3,3)] [(0,0),(4,4),(5,4)] [] ?_;repeat' (with_reducible first|exact trivial|refine And.intro ?_ ?_))
     all_goals first|rfl|(simp [w];done)|(exact ao)|skip
     refine RowsRen.cast (uX (i:=0 + (k:Int).toNat) hxk 4 5 (by simp)) ?_
     refine RowsRen.castR (b:=(ps.take k).map (prg 4) ++ ([prg 4 (s,xs)] ++ (ps.drop (k + 1)).map (prt 0))) (by rw [kF (prg 4) hxk,List.append_assoc]) ?_
     refine RowsRen.app (aI ?_ _) (RowsRen.app (gV ?_ (s,xs)) (br ?_ _))<;>rfl
    ·((conv=>whnf);(repeat' ((first|refine gT ?_|((with_reducible refine ai ?_ ?_);focus (simp [hlt];done))|((with_reducible refine aj ?_ ?_);focus (simp [hlt];done))|(with_reducible refine ab (fun _=>?_) (fun _=>?_)))<;>(conv=>whnf))))
     have:k=ps.length:=by omega
     subst this
     (refine qcv hB [] [(0,0),(4,2)] [(3,1)] ?_;repeat' (with_reducible first|exact trivial|refine And.intro ?_ ?_))
     all_goals first|rfl|(refine RowsRen.cast ?_ (aI (r:=4) rfl ps);simp;exact List.take_of_length_le (by simp))
def d8 (n e:Int) (p:Pt):Bool:=am p.1 4294967295 && (decide (p.2.length≠0) && (decide (e < ah p.1 n) && (decide (p.2.length≤2048) && decide (ah p.1 n≤2048 - p.2.length))))
def bG (n:Int):Int→List Pt→Bool
 | _,[]=>true
 | e,p::ps=>d8 n e p && bG n (ah p.1 n + p.2.length) ps
def mayB (n:Int) (ps:List Pt):Bool:=am n 4294967295 && (decide (ps.length≤8) && bG n 0 ps)
theorem bI {α:Type} {ps:List α} {k:Nat} {p:α} (h:ps[k]?=some p):ps.drop k=p::ps.drop (k + 1):=by
 have hk:k < ps.length:=(List.getElem?_eq_some_iff.1 h).1
 rw [List.drop_eq_getElem_cons hk];rw [List.getElem?_eq_getElem hk] at h;cases h;rfl
theorem kL {n e:Int} {ps:List Pt} {k:Nat} {p:Pt} {b:Bool} (h:ps[k]?=some p) (hg:bG n e (ps.drop k)=b):(d8 n e p && bG n (ah p.1 n + p.2.length) (ps.drop (k + 1)))=b:=by
 rw [bI h] at hg;exact hg
theorem xN (n:Int) (ps:List Pt) (hp:dq ps):ACallL Tryz.prog 85 [.agg [.val (.int .i64 n),.list 0 2 (ps.map (prt 0))]] [.perm] (.val (.bool (mayB n ps))) [.perm]:=by
 obtain ⟨hl,hb⟩:=hp
 have px:=ar ps
 have hlen:(ps.map (prt 0)).length=ps.length:=by simp
 by_cases hn:am n 4294967295=true
 ·by_cases h8:ps.length≤8
  ·obtain ⟨b,hg⟩ : ∃ b,bG n 0 ps=b:=⟨_,rfl⟩
   have hm:mayB n ps=b:=by simp [mayB,hn,h8,hg]
   have h8' : ¬ (8:Int) < ps.length:=by omega
   rw [hm]
   refine ACallL.of_ev af Tryz.func85 rfl (fun a w=>Tryz.call85 a w) (congrArg Array.toList Tryz.results85) Tryz.ntmps85 fun B hB=>?_
   ((conv=>whnf);(repeat' ((first|refine gT ?_|((with_reducible refine ai ?_ ?_);focus (simp [hn,hlen,h8'];done))|((with_reducible refine aj ?_ ?_);focus (simp [hn,hlen,h8'];done))|(with_reducible refine ab (fun _=>?_) (fun _=>?_))|((with_reducible refine qcp (eY _) ?_);refine pT ?_))<;>(conv=>whnf))))
   refine qAW.loop af (X:=Nat × Int) (fun x=>ap 64 [(1,.ptr 1 0 0),(3,.val (.int .i64 x.2)),(18,.list 0 2 (ps.map (prt 0))),(19,.val (.int .i64 ps.length)),(20,.val (.int .i64 x.1))]) (fun x=>[.perm,.live ⟨2,46,[[.val (.int .i64 n),.list 0 2 (ps.map (prt 0))]]⟩]) (fun x=>x.1≤ps.length∧bG n x.2 (ps.drop x.1)=b) (fun x=>ps.length - x.1) (0,0) ⟨Nat.zero_le _,hg⟩ ?_ ?_
   ·(refine qcv hB [(1,1)] [(0,0)] [] ?_;repeat' (with_reducible first|exact trivial|refine And.intro ?_ ?_))
    all_goals first|rfl|(exact ao)|(rw [hlen];done)
   ·rintro ⟨k,e⟩ ⟨hk,hgk⟩
    dsimp only at hk hgk ⊢
    by_cases hlt:k < ps.length
    ·obtain ⟨⟨s,xs⟩,hxk⟩ : ∃ p,ps[k]?=some p:=⟨_,List.getElem?_eq_getElem hlt⟩
     have hx:xs.length≤100000000:=hb _ (List.mem_of_getElem? hxk)
     have hrow:(ps.map (prt 0))[(k:Int).toNat]?=some [.val (.int .i64 s),bL 0 xs]:=by simp [hxk]
     have w:=IntWalk.i64_in (k + 1) (by omega)
     have hd:=bY s n
     have w2:=IntWalk.i64_in (2048 - xs.length) (by omega)
     have w3:=IntWalk.i64_in (ah s n + xs.length) (by omega)
     have hs:=kL hxk hgk
     have lx:(xs.map bR).length=xs.length:=by simp
     have pxs:PlRows (xs.map bR):=al xs
     unfold d8 at hs
     dsimp only at hs
     have hlt' : (k:Int) < ps.length:=by omega
     ((conv=>whnf);(repeat' ((first|refine gT ?_|((with_reducible refine ai ?_ ?_);focus (simp [hlt'];done))|((with_reducible refine aj ?_ ?_);focus (simp [hlt'];done))|(with_reducible refine ab (fun _=>?_) (fun _=>?_))|(refine ak (idxL rfl rfl rfl rfl rfl rfl (by omega) hrow) ?_)|((with_reducible refine qcp (dg _ _) ?_);refine pT ?_)|((with_reducible refine qcp (eY _) ?_);refine pT ?_))<;>(conv=>whnf))))
     all_goals simp only [lx,w2,w3,decide_eq_true_eq,decide_eq_false_iff_not,beq_iff_eq,beq_eq_false_iff_ne] at *
     all_goals first
      | ((refine qcv hB [] [(0,0)] [] ?_;repeat' (with_reducible first|exact trivial|refine And.intro ?_ ?_))
         rw [← hs];congr 2;symm;rw [Bool.eq_false_iff];intro hh;simp only [Bool.and_eq_true,decide_eq_true_eq] at hh;obtain ⟨⟨h1,h2,h3,h4,h5⟩,_⟩:=hh;first|omega|(simp_all;done))
      | (refine ⟨(k + 1,ah s n + xs.length),⟨by dsimp only;omega,?_⟩,by dsimp only;omega,?_⟩
         ·rw [← hs];symm
          rw [Bool.and_eq_right_iff_imp]
          intro _
          simp only [Bool.and_eq_true,decide_eq_true_eq]
          exact ⟨by assumption,by omega,by omega,by omega,by omega⟩
         ·(refine qcv hB [(1,1)] [(0,0)] [] ?_;repeat' (with_reducible first|exact trivial|refine And.intro ?_ ?_))
          all_goals first|rfl|(exact ao)|(simp [w];done)|(rw [lx,w3];done)|(simp [w3];done))
    ·((conv=>whnf);(repeat' ((first|refine gT ?_|((with_reducible refine ai ?_ ?_);focus (simp [hlt];done))|((with_reducible refine aj ?_ ?_);focus (simp [hlt];done))|(with_reducible refine ab (fun _=>?_) (fun _=>?_)))<;>(conv=>whnf))))
     have:k=ps.length:=by omega
     subst this
     (refine qcv hB [] [(0,0)] [] ?_;repeat' (with_reducible first|exact trivial|refine And.intro ?_ ?_))
     all_goals first|rfl|(rw [← hgk];simp [bG])
  ·have h8' : (8:Int) < ps.length:=by omega
   have hm:mayB n ps=false:=by simp [mayB,hn,h8]
   rw [hm]
   refine ACallL.of_ev af Tryz.func85 rfl (fun a w=>Tryz.call85 a w) (congrArg Array.toList Tryz.results85) Tryz.ntmps85 fun B hB=>?_
   ((conv=>whnf);(repeat' ((first|refine gT ?_|((with_reducible refine ai ?_ ?_);focus (simp [hn,hlen,h8'];done))|((with_reducible refine aj ?_ ?_);focus (simp [hn,hlen,h8'];done))|(with_reducible refine ab (fun _=>?_) (fun _=>?_))|((with_reducible refine qcp (eY _) ?_);refine pT ?_))<;>(conv=>whnf))))
   all_goals (refine qcv hB [] [(0,0)] [] ?_;repeat' (with_reducible first|exact trivial|refine And.intro ?_ ?_))
   all_goals rfl
 ·have hn:am n 4294967295=false:=by simpa using hn
  have hm:mayB n ps=false:=by simp [mayB,hn]
  rw [hm]
  refine ACallL.of_ev af Tryz.func85 rfl (fun a w=>Tryz.call85 a w) (congrArg Array.toList Tryz.results85) Tryz.ntmps85 fun B hB=>?_
  ((conv=>whnf);(repeat' ((first|refine gT ?_|((with_reducible refine ai ?_ ?_);focus (simp [hn];done))|((with_reducible refine aj ?_ ?_);focus (simp [hn];done))|(with_reducible refine ab (fun _=>?_) (fun _=>?_))|((with_reducible refine qcp (eY _) ?_);refine pT ?_))<;>(conv=>whnf))))
  all_goals (refine qcv hB [] [(0,0)] [] ?_;repeat' (with_reducible first|exact trivial|refine And.intro ?_ ?_))
  all_goals rfl
theorem gR (a b:Int):woff a b=if ah a b < 0 then ah a b + 4294967296 else ah a b:=by
 unfold woff ah
 split<;>omega
theorem oG (n:Int) (ps:List Pt) (hp:dq ps):ACallL Tryz.prog 47 [.agg [.val (.int .i64 n),.list 0 2 (ps.map (prt 0))]] [.perm] (.val (.bool (mayB n ps))) [.perm]:=by
 obtain ⟨hl,hb⟩:=hp
 have px:=ar ps
 have hlen:(ps.map (prt 0)).length=ps.length:=by simp
 by_cases hn:am n 4294967295=true
 ·by_cases h8:ps.length≤8
  ·obtain ⟨b,hg⟩ : ∃ b,bG n 0 ps=b:=⟨_,rfl⟩
   have hm:mayB n ps=b:=by simp [mayB,hn,h8,hg]
   have h8' : ¬ (8:Int) < ps.length:=by omega
   rw [hm]
   refine ACallL.of_ev af Tryz.func47 rfl (fun a w=>Tryz.call47 a w) (congrArg Array.toList Tryz.results47) Tryz.ntmps47 fun B hB=>?_
   ((conv=>whnf);(repeat' ((first|refine gT ?_|((with_reducible refine ai ?_ ?_);focus (simp [hn,hlen,h8'];done))|((with_reducible refine aj ?_ ?_);focus (simp [hn,hlen,h8'];done))|(with_reducible refine ab (fun _=>?_) (fun _=>?_))|((with_reducible refine qcp (dx _) ?_);refine pT ?_))<;>(conv=>whnf))))
   refine qAW.loop af (X:=Nat × Int) (fun x=>ap 70 [(1,.ptr 1 0 0),(3,.val (.int .i64 x.2)),(4,.val (.int .i64 x.1))]) (fun x=>[.perm,.live ⟨2,46,[[.val (.int .i64 n),.list 0 2 (ps.map (prt 0))]]⟩]) (fun x=>(x.1≤ps.length∧0≤x.2)∧bG n x.2 (ps.drop x.1)=b) (fun x=>ps.length - x.1) (0,0) ⟨⟨Nat.zero_le _,Int.le_refl _⟩,hg⟩ ?_ ?_
   ·(refine qcv hB [(1,1)] [(0,0)] [] ?_;repeat' (with_reducible first|exact trivial|refine And.intro ?_ ?_))
    all_goals first|rfl|(exact ao)|(rw [hlen];done)
   ·rintro ⟨k,e⟩ ⟨⟨hk,he⟩,hgk⟩
    dsimp only at hk hgk he ⊢
    by_cases hlt:k < ps.length
    ·obtain ⟨⟨s,xs⟩,hxk⟩ : ∃ p,ps[k]?=some p:=⟨_,List.getElem?_eq_getElem hlt⟩
     have hx:xs.length≤100000000:=hb _ (List.mem_of_getElem? hxk)
     have hrow:(ps.map (prt 0))[(k:Int).toNat]?=some [.val (.int .i64 s),bL 0 xs]:=by simp [hxk]
     have w:=IntWalk.i64_in (k + 1) (by omega)
     have hd:=bY s n
     have ho:=gR s n
     have hob:=pK s n
     have w2:=IntWalk.i64_in (2048 - woff s n) (by omega)
     have w3:=IntWalk.i64_in (woff s n + xs.length) (by omega)
     have hs:=kL hxk hgk
     have lx:(xs.map bR).length=xs.length:=by simp
     have pxs:PlRows (xs.map bR):=al xs
     unfold d8 at hs
     dsimp only at hs
     have hlt' : (k:Int) < ps.length:=by omega
     ((conv=>whnf);(repeat' ((first|refine gT ?_|((with_reducible refine ai ?_ ?_);focus (simp [hlen,hlt'];done))|((with_reducible refine aj ?_ ?_);focus (simp [hlen,hlt'];done))|(with_reducible refine ab (fun _=>?_) (fun _=>?_))|(refine ak (idxL rfl rfl rfl rfl rfl rfl (by omega) hrow) ?_)|((with_reducible refine qcp (ic _ _) ?_);refine pT ?_)|((with_reducible refine qcp (dx _) ?_);refine pT ?_))<;>(conv=>whnf))))
     all_goals simp only [lx,w2,w3,decide_eq_true_eq,decide_eq_false_iff_not,beq_iff_eq,beq_eq_false_iff_ne] at *
     all_goals first
      | ((refine qcv hB [] [(0,0)] [] ?_;repeat' (with_reducible first|exact trivial|refine And.intro ?_ ?_))
         rw [← hs];congr 2;symm;rw [Bool.eq_false_iff];intro hh;simp only [Bool.and_eq_true,decide_eq_true_eq] at hh;obtain ⟨⟨h1,h2,h3,h4,h5⟩,_⟩:=hh;(split at ho);all_goals first|omega|(simp_all;done))
      | (have e1:woff s n=ah s n:=by split at ho<;>omega
         refine ⟨(k + 1,ah s n + xs.length),⟨⟨by dsimp only;omega,by dsimp only;omega⟩,?_⟩,by dsimp only;omega,?_⟩
         ·rw [← hs];symm
          rw [Bool.and_eq_right_iff_imp]
          intro _
          simp only [Bool.and_eq_true,decide_eq_true_eq]
          exact ⟨by assumption,by omega,by omega,by omega,by omega⟩
         ·(refine qcv hB [(1,1)] [(0,0)] [] ?_;repeat' (with_reducible first|exact trivial|refine And.intro ?_ ?_))
          all_goals first|rfl|(exact ao)|(simp [w];done)|(rw [lx,w3,e1];done)|(simp [w3,e1];done))
    ·((conv=>whnf);(repeat' ((first|refine gT ?_|((with_reducible refine ai ?_ ?_);focus (simp [hlen,hlt];done))|((with_reducible refine aj ?_ ?_);focus (simp [hlen,hlt];done))|(with_reducible refine ab (fun _=>?_) (fun _=>?_)))<;>(conv=>whnf))))
     have:k=ps.length:=by omega
     subst this
     (refine qcv hB [] [(0,0)] [] ?_;repeat' (with_reducible first|exact trivial|refine And.intro ?_ ?_))
     all_goals first|rfl|(rw [← hgk];simp [bG])
  ·have h8' : (8:Int) < ps.length:=by omega
   have hm:mayB n ps=false:=by simp [mayB,hn,h8]
   rw [hm]
   refine ACallL.of_ev af Tryz.func47 rfl (fun a w=>Tryz.call47 a w) (congrArg Array.toList Tryz.results47) Tryz.ntmps47 fun B hB=>?_
   ((conv=>whnf);(repeat' ((first|refine gT ?_|((with_reducible refine ai ?_ ?_);focus (simp [hn,hlen,h8'];done))|((with_reducible refine aj ?_ ?_);focus (simp [hn,hlen,h8'];done))|(with_reducible refine ab (fun _=>?_) (fun _=>?_))|((with_reducible refine qcp (dx _) ?_);refine pT ?_))<;>(conv=>whnf))))
   all_goals (refine qcv hB [] [(0,0)] [] ?_;repeat' (with_reducible first|exact trivial|refine And.intro ?_ ?_))
   all_goals rfl
 ·have hn:am n 4294967295=false:=by simpa using hn
  have hm:mayB n ps=false:=by simp [mayB,hn]
  rw [hm]
  refine ACallL.of_ev af Tryz.func47 rfl (fun a w=>Tryz.call47 a w) (congrArg Array.toList Tryz.results47) Tryz.ntmps47 fun B hB=>?_
  ((conv=>whnf);(repeat' ((first|refine gT ?_|((with_reducible refine ai ?_ ?_);focus (simp [hn];done))|((with_reducible refine aj ?_ ?_);focus (simp [hn];done))|(with_reducible refine ab (fun _=>?_) (fun _=>?_))|((with_reducible refine qcp (dx _) ?_);refine pT ?_))<;>(conv=>whnf))))
  all_goals (refine qcv hB [] [(0,0)] [] ?_;repeat' (with_reducible first|exact trivial|refine And.intro ?_ ?_))
  all_goals rfl
theorem ql (n s lo:Int) (hs:0≤lo - ah s n) (h2:lo - ah s n < 2147483648):ah (wadd n lo) s=lo - ah s n:=by
 unfold ah wadd at *
 omega
theorem qL (n lo:Int) (h0:0≤lo) (h1:lo < 2147483648):ah (wadd n lo) n=lo:=by
 unfold ah wadd
 omega
theorem wn {s l n k:Int} (h:max (ah s n) 0 < min (ah s n + l) k):ee s l n k=wadd n (max (ah s n) 0)∧dW s l n k=min (ah s n + l) k - max (ah s n) 0:=by
 unfold ee dW
 rw [if_pos h,if_pos h];exact ⟨rfl,rfl⟩
theorem tH {s l n k:Int} (h : ¬ max (ah s n) 0 < min (ah s n + l) k):ee s l n k=0∧dW s l n k=0:=by
 unfold ee dW
 rw [if_neg h,if_neg h];exact ⟨rfl,rfl⟩
theorem ss (n s:Int) (xs:List Int) (ps:List Pt) (hn:0≤n∧n≤4294967295) (hs:0≤s∧s≤4294967295) (hx:xs.length≤65536) (h : ¬ max (ah s n) 0 < min (ah s n + xs.length) 2048) :
 ACallL Tryz.prog 152 [.agg [.val (.int .i64 n),.list 1 2 (ps.map (prt 1))],.val (.int .i64 s),bL 0 xs] [.perm,.perm] (.tup [.val (.int .i64 0),.list 0 1 []]) [.perm,.perm]:=by
 have lx:(xs.map bR).length=xs.length:=by simp
 have px:=al xs
 have ho:=iK s xs.length hs (by omega)
 have hm:=nK s xs.length n 2048 hs (by omega) hn (by omega)
 obtain ⟨e1,e2⟩:=tH h
 rw [e1,e2, ← lx] at hm
 rw [← lx] at ho
 refine ACallL.of_ev af Tryz.func152 rfl (fun a w=>Tryz.call152 a w) (congrArg Array.toList Tryz.results152) Tryz.ntmps152 fun B hB=>?_
 ((conv=>whnf);(repeat' ((first|refine gT ?_|((with_reducible refine ai ?_ ?_);focus (simp [lx];done))|((with_reducible refine aj ?_ ?_);focus (simp [lx];done))|(with_reducible refine ab (fun _=>?_) (fun _=>?_))|((with_reducible refine qcp (iK n 2048 hn (by omega)) ?_);refine pT ?_)|((with_reducible refine qcp (ho) ?_);refine pT ?_)|((with_reducible refine qcp (hm) ?_);refine pT ?_)|((with_reducible refine qcp (lZ 0 0 (by omega) (by omega)) ?_);refine pT ?_)|((with_reducible refine qcp (dg _ _) ?_);refine pT ?_))<;>(conv=>whnf))))
 all_goals (refine qcv hB [] [(0,0),(1,1)] [] ?_;repeat' (with_reducible first|exact trivial|refine And.intro ?_ ?_))
 all_goals rfl
theorem oN (n s:Int) (xs:List Int) (ps:List Pt) (hn:0≤n∧n≤4294967295) (hs:0≤s∧s≤4294967295) (hx:xs.length≤65536) (h:max (ah s n) 0 < min (ah s n + xs.length) 2048) (at_ fr le:Nat) (ha:(at_:Int)=max (ah s n) 0) (hf:(fr:Int)=max (ah s n) 0 - ah s n) (hl:(le:Int)=min (ah s n + xs.length) 2048 - max (ah s n) 0) :
 ACallL Tryz.prog 152 [.agg [.val (.int .i64 n),.list 1 2 (ps.map (prt 1))],.val (.int .i64 s),bL 0 xs] [.perm,.perm] (.tup [.val (.int .i64 at_),bL 0 ((xs.drop fr).take le)]) [.perm,.perm]:=by
 have lx:(xs.map bR).length=xs.length:=by simp
 have px:=al xs
 have ho:=iK s xs.length hs (by omega)
 have hm:=nK s xs.length n 2048 hs (by omega) hn (by omega)
 obtain ⟨e1,e2⟩:=wn h
 rw [e1,e2, ← hl, ← lx] at hm
 rw [← lx] at ho
 have hw:=dK n (max (ah s n) 0)
 have hd:=bY s n
 have f1:=ql n s (max (ah s n) 0) (by omega) (by omega)
 have f2:=qL n (max (ah s n) 0) (by omega) (by omega)
 rw [← hf] at f1
 rw [← ha] at f2 f1 hm hw
 have hp:=lZ (wadd n at_) le (by omega) (by omega)
 have c1:=dg (wadd n at_) s
 have c2:=dg (wadd n at_) n
 rw [f1] at c1
 rw [f2] at c2
 have hl0 : ¬ (le:Int)=0:=by omega
 have hl1 : ¬ le=0:=by omega
 have w:=IntWalk.i64_in (fr + le) (by omega)
 have k1:(fr:Int) + le≤xs.length:=by omega
 have k2:(0:Int)≤fr∧(fr:Int)≤fr + le:=by omega
 refine ACallL.of_ev af Tryz.func152 rfl (fun a w=>Tryz.call152 a w) (congrArg Array.toList Tryz.results152) Tryz.ntmps152 fun B hB=>?_
 ((conv=>whnf);(repeat' ((first|refine gT ?_|((with_reducible refine ai ?_ ?_);focus (simp [lx,hl0,hl1];done))|((with_reducible refine aj ?_ ?_);focus (simp [lx,hl0,hl1];done))|(with_reducible refine ab (fun _=>?_) (fun _=>?_))|((with_reducible refine qcp (iK n 2048 hn (by omega)) ?_);refine pT ?_)|((with_reducible refine qcp (ho) ?_);refine pT ?_)|((with_reducible refine qcp (hm) ?_);refine pT ?_)|((with_reducible refine qcp (hp) ?_);refine pT ?_)|((with_reducible refine qcp (c1) ?_);refine pT ?_)|((with_reducible refine qcp (c2) ?_);refine pT ?_)|(refine ak (slL rfl rfl rfl rfl rfl rfl rfl rfl ⟨k2.1,Int.le_trans k2.2 (Int.le_of_eq w.symm),Int.le_trans (Int.le_of_eq w) (Int.le_trans k1 (Int.le_of_eq (congrArg _ lx.symm))),Int.le_refl _,.inl rfl⟩) ?_))<;>(conv=>whnf))))
 all_goals (refine qcv hB [] [(0,0),(1,1)] [] ?_;repeat' (with_reducible first|exact trivial|refine And.intro ?_ ?_))
 all_goals first | rfl | (refine iA rfl ?_;simp only [Option.getD_some,w];have e0:((fr:Int) + le - fr).toNat=le:=by omega
                          rw [e0,Int.toNat_natCast,List.map_take,List.map_drop])
abbrev hasR (o:Option Int):List AV:=[.val (.bool o.isSome)]
abbrev allR (o:Option Int):List AV:=[.val (.int .u8 (o.getD 0))]
def lay1 (w:List (Option Int)) (i:Nat) (c:Int):List (Option Int):=match w[i]? with|some none=>w.set i (some c)|_=>w
def layW (w:List (Option Int)) (i:Nat):List Int→List (Option Int)
 | []=>w
 | c::cs=>layW (lay1 w i c) (i + 1) cs
theorem ox (w:List (Option Int)) (i:Nat) (c:Int):(lay1 w i c).length=w.length:=by
 unfold lay1;split<;>simp
theorem eE : ∀ (cs:List Int) (w:List (Option Int)) (i:Nat),(layW w i cs).length=w.length
 | [],w,i=>rfl
 | c::cs,w,i=>by rw [layW,eE cs,ox]
theorem ns : ∀ (cs ds:List Int) (w:List (Option Int)) (i:Nat),layW w i (cs ++ ds)=layW (layW w i cs) (i + cs.length) ds
 | [],ds,w,i=>rfl
 | c::cs,ds,w,i=>by
   rw [List.cons_append,layW,layW,ns cs ds]
   congr 1
   simp;omega
theorem lX {xs:List Int} {k:Nat} {x:Int} (h:xs[k]?=some x) (w:List (Option Int)) (i:Nat):layW w i (xs.take (k + 1))=lay1 (layW w i (xs.take k)) (i + k) x:=by
 have hk:k < xs.length:=(List.getElem?_eq_some_iff.1 h).1
 rw [bj h,ns]
 simp [layW,Nat.min_eq_left (Nat.le_of_lt hk)]
theorem pC {α:Type} {w:List α} {f:α→List AV} {i j:Nat} {x:α} {r:List AV} (hi:j=i) (hr:r=f x):(w.map f).set j r=(w.set i x).map f:=by
 subst hi hr;rw [List.map_set]
theorem ax {α:Type} {q:Rn} {h:Hp} {rows:List (List AV)} (l:List α) (f:α→Value) (e:rows=l.map fun x=>[.val (f x)]):RowsRen q h rows (l.map fun x=>[.val (f x)]) :=
 RowsRen.vals e (by simp [AV.isVal])
theorem vb (w0:List (Option Int)) (at_:Nat) (xs:List Int) (hw:w0.length=2048) (ha:at_ + xs.length≤2048) :
 ACallL Tryz.prog 160 [.val (.int .i64 at_),bL 0 xs,.ptr 1 0 0,.ptr 2 0 0] [.perm,.live ⟨1,159,[[.sl 3 0 2048]]⟩,.live ⟨1,37,[[.sl 4 0 2048]]⟩,.live ⟨1,4,w0.map hasR⟩,.live ⟨1,5,w0.map allR⟩] (.tup [])
  [.perm,.live ⟨1,159,[[.sl 3 0 2048]]⟩,.live ⟨1,37,[[.sl 4 0 2048]]⟩,.live ⟨1,4,(layW w0 at_ xs).map hasR⟩,.live ⟨1,5,(layW w0 at_ xs).map allR⟩]:=by
 have lx:(xs.map bR).length=xs.length:=by simp
 refine ACallL.of_ev af Tryz.func160 rfl (fun a w=>Tryz.call160 a w) (congrArg Array.toList Tryz.results160) Tryz.ntmps160 fun B hB=>?_
 ((conv=>whnf);(repeat' ((first|refine gT ?_|(with_reducible refine ab (fun _=>?_) (fun _=>?_)))<;>(conv=>whnf))))
 refine qAW.loop af (X:=Nat) (fun k=>ap 34 [(0,.val (.int .i64 at_)),(2,.ptr 1 0 0),(3,.ptr 2 0 0),(8,bL 0 xs),(9,.val (.int .i64 xs.length)),(10,.val (.int .i64 k))])
  (fun k=>[.perm,.live ⟨1,159,[[.sl 3 0 2048]]⟩,.live ⟨1,37,[[.sl 4 0 2048]]⟩,.live ⟨1,4,(layW w0 at_ (xs.take k)).map hasR⟩,.live ⟨1,5,(layW w0 at_ (xs.take k)).map allR⟩]) (fun k=>k≤xs.length) (fun k=>xs.length - k) 0 (Nat.zero_le _) ?_ ?_
 ·(refine qcv hB [(1,1),(2,2),(3,3),(4,4)] [(0,0)] [] ?_;repeat' (with_reducible first|exact trivial|refine And.intro ?_ ?_))
  all_goals first|rfl|(exact ao)|exact aM rfl rfl|(rw [lx];done)
 ·intro k hk
  obtain ⟨w1,hw1⟩ : ∃ w1,layW w0 at_ (xs.take k)=w1:=⟨_,rfl⟩
  have l1:w1.length=2048:=by rw [← hw1,eE,hw]
  by_cases hlt:k < xs.length
  ·obtain ⟨x,hxk⟩ : ∃ x,xs[k]?=some x:=⟨_,List.getElem?_eq_getElem hlt⟩
   have hrow:(xs.map bR)[(k:Int).toNat]?=some (bR x):=by simp [hxk]
   have w:=IntWalk.i64_in (k + 1) (by omega)
   have w2:=IntWalk.i64_in (at_ + k) (by omega)
   have e0:0 + ((at_:Int) + k).toNat=at_ + k:=by omega
   obtain ⟨o,ho⟩ : ∃ o,w1[at_ + k]?=some o:=⟨_,List.getElem?_eq_getElem (by omega)⟩
   have hs:=lX hxk w0 at_
   rw [hw1] at hs
   dsimp only
   rw [hw1]
   have r1:(w1.map hasR)[0 + (IntKind.i64.wrap (at_ + k)).toNat]?=some (hasR o):=by rw [w2,e0];simp [ho]
   have r2:(w1.map allR)[0 + (IntKind.i64.wrap (at_ + k)).toNat]?=some (allR o):=by rw [w2,e0];simp [ho]
   cases o with
   | none =>
     have hs2:layW w0 at_ (xs.take (k + 1))=w1.set (at_ + k) (some x):=by rw [hs,lay1,ho]
     ((conv=>whnf);(repeat' ((first|refine gT ?_|((with_reducible refine ai ?_ ?_);focus (simp [lx,hlt];done))|((with_reducible refine aj ?_ ?_);focus (simp [lx,hlt];done))|(with_reducible refine ab (fun _=>?_) (fun _=>?_))|(refine ak (idxL rfl rfl rfl rfl rfl rfl (by omega) hrow) ?_)|(refine ak (idxS rfl rfl rfl rfl rfl rfl rfl rfl (by rw [w2];omega)) ?_)|(refine ak (ldR rfl rfl rfl rfl rfl r1 rfl) ?_)|(refine ak (stR rfl rfl rfl rfl r1 rfl rfl (Nat.le_of_ble_eq_true rfl)) ?_)|(refine ak (stR rfl rfl rfl rfl r2 rfl rfl (Nat.le_of_ble_eq_true rfl)) ?_))<;>(conv=>whnf))))
     refine ⟨k + 1,by omega,by omega,?_⟩
     (refine qcv hB [(1,1),(2,2),(3,3),(4,4)] [(0,0)] [] ?_;repeat' (with_reducible first|exact trivial|refine And.intro ?_ ?_))
     all_goals first|rfl|(exact ao)|(simp [w];done)|exact aM rfl rfl|skip
     ·rw [hs2];exact ax _ (fun o:Option Int => .bool o.isSome) (pC (i:=at_ + k) (by rw [w2,e0]) rfl)
     ·rw [hs2];exact ax _ (fun o:Option Int => .int .u8 (o.getD 0)) (pC (i:=at_ + k) (by rw [w2,e0]) rfl)
   | some c =>
     have hs2:layW w0 at_ (xs.take (k + 1))=w1:=by rw [hs,lay1,ho]
     ((conv=>whnf);(repeat' ((first|refine gT ?_|((with_reducible refine ai ?_ ?_);focus (simp [lx,hlt];done))|((with_reducible refine aj ?_ ?_);focus (simp [lx,hlt];done))|(with_reducible refine ab (fun _=>?_) (fun _=>?_))|(refine ak (idxL rfl rfl rfl rfl rfl rfl (by omega) hrow) ?_)|(refine ak (idxS rfl rfl rfl rfl rfl rfl rfl rfl (by rw [w2];omega)) ?_)|(refine ak (ldR rfl rfl rfl rfl rfl r1 rfl) ?_))<;>(conv=>whnf))))
     refine ⟨k + 1,by omega,by omega,?_⟩
     (refine qcv hB [(1,1),(2,2),(3,3),(4,4)] [(0,0)] [] ?_;repeat' (with_reducible first|exact trivial|refine And.intro ?_ ?_))
     all_goals first|rfl|(exact ao)|(simp [w];done)|exact aM rfl rfl|skip
     ·rw [hs2];exact ax _ (fun o:Option Int => .bool o.isSome) rfl
     ·rw [hs2];exact ax _ (fun o:Option Int => .int .u8 (o.getD 0)) rfl
  ·((conv=>whnf);(repeat' ((first|refine gT ?_|((with_reducible refine ai ?_ ?_);focus (simp [lx,hlt];done))|((with_reducible refine aj ?_ ?_);focus (simp [lx,hlt];done))|(with_reducible refine ab (fun _=>?_) (fun _=>?_)))<;>(conv=>whnf))))
   have:k=xs.length:=by omega
   subst this
   rw [List.take_length] at hw1 ⊢
   (refine qcv hB [(1,1),(2,2),(3,3),(4,4)] [(0,0)] [] ?_;repeat' (with_reducible first|exact trivial|refine And.intro ?_ ?_))
   all_goals first|rfl|(exact ao)|exact ax _ (fun o:Option Int => .bool o.isSome) rfl|exact ax _ (fun o:Option Int => .int .u8 (o.getD 0)) rfl
def kS (n:Int) (ps:List Pt):Prop := ∀ p∈ps,0≤ah p.1 n∧ah p.1 n + p.2.length≤2048
def layP (n:Int) (w:List (Option Int)) (ps:List Pt):List (Option Int):=ps.foldl (fun w p=>layW w (ah p.1 n).toNat p.2) w
theorem lY {n:Int} {ps:List Pt} {k:Nat} {p:Pt} (h:ps[k]?=some p) (w:List (Option Int)):layP n w (ps.take (k + 1))=layW (layP n w (ps.take k)) (ah p.1 n).toNat p.2:=by
 rw [bj h];simp [layP]
theorem eB (n:Int) : ∀ (ps:List Pt) (w:List (Option Int)),(layP n w ps).length=w.length
 | [],w=>rfl
 | p::ps,w=>by
   have:=eB n ps (layW w (ah p.1 n).toNat p.2)
   rw [eE] at this
   exact this
def win0:List (Option Int):=List.replicate 2048 none
theorem ez:win0.length=2048:=by simp [win0]
attribute [irreducible] win0
theorem tR:win0.map hasR=List.replicate 2048 [.val (.bool false)]:=by unfold win0;simp
theorem bi:win0.map allR=List.replicate 2048 [.val (.int .u8 0)]:=by unfold win0;simp
theorem xy (n:Int) (ps:List Pt) (at_:Nat) (xs:List Int) (hp:dq ps) (hi:kS n ps) (ha:at_ + xs.length≤2048):ACallL Tryz.prog 153 [.agg [.val (.int .i64 n),.list 0 2 (ps.map (prt 0))],.val (.int .i64 at_),bL 0 xs] [.perm] (.tup [.sl 1 0 2048,.sl 2 0 2048])
 [.perm,.live ⟨1,4,(layW (layP n win0 ps) at_ xs).map hasR⟩,.live ⟨1,5,(layW (layP n win0 ps) at_ xs).map allR⟩]:=by
 have px:=al xs
 have pp:=ar ps
 have hlen:(ps.map (prt 0)).length=ps.length:=by simp
 obtain ⟨hl,hb⟩:=hp
 refine ACallL.of_ev af Tryz.func153 rfl (fun a w=>Tryz.call153 a w) (congrArg Array.toList Tryz.results153) Tryz.ntmps153 fun B hB=>?_
 ((conv=>whnf);(repeat' ((first|refine gT ?_|(with_reducible refine ab (fun _=>?_) (fun _=>?_)))<;>(conv=>whnf))))
 refine qAW.loop af (X:=Nat) (fun k=>ap 37 [(1,.val (.int .i64 at_)),(2,bL 0 xs),(3,.ptr 1 0 0),(6,.ptr 2 0 0),(7,.ptr 3 0 0),(8,.clo 160 [.ptr 2 0 0,.ptr 3 0 0]),(15,.list 0 2 (ps.map (prt 0))),(16,.val (.int .i64 ps.length)),(17,.val (.int .i64 k))])
  (fun k=>[.perm,.live ⟨2,46,[[.val (.int .i64 n),.list 0 2 (ps.map (prt 0))]]⟩,.live ⟨1,159,[[.sl 4 0 2048]]⟩,.live ⟨1,37,[[.sl 5 0 2048]]⟩,.live ⟨1,4,(layP n win0 (ps.take k)).map hasR⟩,.live ⟨1,5,(layP n win0 (ps.take k)).map allR⟩]) (fun k=>k≤ps.length) (fun k=>ps.length - k) 0 (Nat.zero_le _) ?_ ?_
 ·(refine qcv hB [(1,1),(2,2),(3,3),(4,4),(5,5)] [(0,0)] [] ?_;repeat' (with_reducible first|exact trivial|refine And.intro ?_ ?_))
  all_goals first|rfl|(exact ao)|exact ax _ (fun o:Option Int => .bool o.isSome) tR.symm|exact ax _ (fun o:Option Int => .int .u8 (o.getD 0)) bi.symm|(rw [hlen];done)
 ·intro k hk
  obtain ⟨w1,hw1⟩ : ∃ w1,layP n win0 (ps.take k)=w1:=⟨_,rfl⟩
  have l1:w1.length=2048:=by rw [← hw1,eB,ez]
  by_cases hlt:k < ps.length
  ·obtain ⟨⟨s,ys⟩,hxk⟩ : ∃ p,ps[k]?=some p:=⟨_,List.getElem?_eq_getElem hlt⟩
   have hx:ys.length≤100000000:=hb _ (List.mem_of_getElem? hxk)
   have hin:=hi _ (List.mem_of_getElem? hxk)
   dsimp only at hin
   obtain ⟨d,hd⟩ : ∃ d:Nat,(d:Int)=ah s n:=⟨(ah s n).toNat,by omega⟩
   have hs:=lY (n:=n) hxk win0
   rw [hw1] at hs
   dsimp only at hs
   rw [← hd,Int.toNat_natCast] at hs
   have cd:=dg s n
   rw [← hd] at cd
   have cl:=vb w1 d ys l1 (by omega)
   have hrow:(ps.map (prt 0))[(k:Int).toNat]?=some [.val (.int .i64 s),bL 0 ys]:=by simp [hxk]
   have w:=IntWalk.i64_in (k + 1) (by omega)
   have py:=al ys
   dsimp only
   rw [hw1]
   ((conv=>whnf);(repeat' ((first|refine gT ?_|((with_reducible refine ai ?_ ?_);focus (simp [hlt];done))|((with_reducible refine aj ?_ ?_);focus (simp [hlt];done))|(with_reducible refine ab (fun _=>?_) (fun _=>?_))|(refine ak (idxL rfl rfl rfl rfl rfl rfl (by omega) hrow) ?_)|((with_reducible refine qcp (cd) ?_);refine pT ?_))<;>(conv=>whnf))))
   ((with_reducible refine qco (cl) [(1,2),(2,3),(3,4),(4,5)] [(0,0)] [] [] [(2,.live ⟨1,159,[[.sl 4 0 2048]]⟩),(3,.live ⟨1,37,[[.sl 5 0 2048]]⟩),(4,.live ⟨1,4,(layW w1 d ys).map hasR⟩),(5,.live ⟨1,5,(layW w1 d ys).map allR⟩)] (.tup []) ?_);refine sT ?_)
   ((conv=>whnf);(repeat' ((first|refine gT ?_|(with_reducible refine ab (fun _=>?_) (fun _=>?_)))<;>(conv=>whnf))))
   refine ⟨k + 1,by omega,by omega,?_⟩
   rw [hs]
   (refine qcv hB [(1,1),(2,2),(3,3),(4,4),(5,5)] [(0,0)] [] ?_;repeat' (with_reducible first|exact trivial|refine And.intro ?_ ?_))
   all_goals first|rfl|(exact ao)|exact ax _ (fun o:Option Int => .bool o.isSome) rfl|exact ax _ (fun o:Option Int => .int .u8 (o.getD 0)) rfl|(simp [w];done)
  ·have:k=ps.length:=by omega
   subst this
   rw [List.take_length] at hw1
   dsimp only
   rw [List.take_length,hw1]
   have cl:=vb w1 at_ xs l1 ha
   ((conv=>whnf);(repeat' ((first|refine gT ?_|((with_reducible refine ai ?_ ?_);focus (simp [hlt];done))|((with_reducible refine aj ?_ ?_);focus (simp [hlt];done))|(with_reducible refine ab (fun _=>?_) (fun _=>?_)))<;>(conv=>whnf))))
   ((with_reducible refine qco (cl) [(1,2),(2,3),(3,4),(4,5)] [(0,0)] [] [] [(2,.live ⟨1,159,[[.sl 4 0 2048]]⟩),(3,.live ⟨1,37,[[.sl 5 0 2048]]⟩),(4,.live ⟨1,4,(layW w1 at_ xs).map hasR⟩),(5,.live ⟨1,5,(layW w1 at_ xs).map allR⟩)] (.tup []) ?_);refine sT ?_)
   ((conv=>whnf);(repeat' ((first|refine gT ?_|(with_reducible refine ab (fun _=>?_) (fun _=>?_)))<;>(conv=>whnf))))
   (refine qcv hB [(4,1),(5,2)] [(0,0)] [] ?_;repeat' (with_reducible first|exact trivial|refine And.intro ?_ ?_))
   all_goals first|rfl|(exact ao)|exact ax _ (fun o:Option Int => .bool o.isSome) rfl|exact ax _ (fun o:Option Int => .int .u8 (o.getD 0)) rfl
abbrev Win:=List (Option Int)
def isS (w:Win) (i:Nat):Bool:=(w.getD i none).isSome
def vals (w:Win):List Int:=w.map fun o=>o.getD 0
def seg (w:Win) (j m:Nat):List Int:=((vals w).drop j).take (m - j)
def dJ (c:Int):List Pt→List Pt
 | []=>[]
 | [p]=>[(p.1,p.2 ++ [c])]
 | p::q::l=>p::dJ c (q::l)
theorem db (c:Int) (p:Pt) : ∀ l:List Pt,dJ c (l ++ [p])=l ++ [(p.1,p.2 ++ [c])]
 | []=>rfl
 | [q]=>rfl
 | q::r::l=>by
   have:=db c p (r::l)
   simp only [List.cons_append] at this ⊢
   rw [dJ,this]
def az (nx:Int) (w:Win) (t:Nat):Nat→List Pt
 | 0=>[]
 | n + 1=>if n < t then [] else if isS w n then (if t < n∧isS w (n - 1) then dJ ((vals w).getD n 0) (az nx w t n) else az nx w t n ++ [(wadd nx n,[(vals w).getD n 0])]) else az nx w t n
theorem cV (nx:Int) (w:Win) (t:Nat) : ∀ n,n≤t→az nx w t n=[]
 | 0,_=>rfl
 | n + 1,h=>by rw [az,if_pos (by omega)]
theorem cp {nx:Int} {w:Win} {t n:Nat} (h:isS w n=false):az nx w t (n + 1)=az nx w t n:=by
 rw [az]
 split
 ·rw [cV nx w t n (by omega)]
 ·simp [h]
theorem dG {nx:Int} {w:Win} {t n:Nat} (ht:t < n) (hs:isS w n=true) (hp:isS w (n - 1)=true):az nx w t (n + 1)=dJ ((vals w).getD n 0) (az nx w t n):=by
 rw [az,if_neg (by omega),hs,if_pos rfl,if_pos ⟨ht,hp⟩]
theorem dl {nx:Int} {w:Win} {t n:Nat} (ht:t≤n) (hs:isS w n=true) (hp:t=n∨isS w (n - 1)=false):az nx w t (n + 1)=az nx w t n ++ [(wadd nx n,[(vals w).getD n 0])]:=by
 rw [az,if_neg (by omega),hs,if_pos rfl,if_neg (by rintro ⟨h1,h2⟩;rcases hp with h|h;omega;rw [h] at h2;cases h2)]
theorem dU (w:Win):(vals w).length=w.length:=by simp [vals]
theorem wD {w:Win} {j:Nat} (h:j < w.length):seg w j (j + 1)=[(vals w).getD j 0]:=by
 have h' : j < (vals w).length:=by rw [dU];exact h
 unfold seg
 rw [show j + 1 - j=0 + 1 by omega,List.drop_eq_getElem_cons h', List.take_succ_cons,List.take_zero]
 simp [List.getD,h']
theorem uA {w:Win} {j m:Nat} (hj:j≤m) (h:m < w.length):seg w j (m + 1)=seg w j m ++ [(vals w).getD m 0]:=by
 have h' : m < (vals w).length:=by rw [dU];exact h
 unfold seg
 rw [show m + 1 - j=(m - j) + 1 by omega,List.take_add_one]
 congr 1
 rw [List.getElem?_drop,show j + (m - j)=m by omega]
 simp [List.getD,h']
theorem dv {nx:Int} {w:Win} {t j:Nat} (ht:t≤j) (hb:j=t∨isS w (j - 1)=false) : ∀ m,j < m→m≤w.length→(∀ i,j≤i→i < m→isS w i=true)→az nx w t m=az nx w t j ++ [(wadd nx j,seg w j m)]
 | 0,h,_,_=>by omega
 | m + 1,h,hl,hs=>by
   rw [az,if_neg (by omega),hs m (by omega) (by omega),if_pos rfl]
   by_cases e:m=j
   ·subst e
    rw [if_neg (by rintro ⟨h1,h2⟩;rcases hb with rfl|hb;omega;rw [hb] at h2;cases h2),wD (by omega)]
   ·rw [if_pos ⟨by omega,hs (m - 1) (by omega) (by omega)⟩,dv ht hb m (by omega) (by omega) (fun i h1 h2=>hs i h1 (by omega)),db,uA (by omega) (by omega)]
theorem dF {nx:Int} {w:Win} {t j:Nat} : ∀ m,j≤m→(∀ i,j≤i→i < m→isS w i=false)→az nx w t m=az nx w t j
 | 0, h, _ => by have:j=0:=by omega
                 rw [this]
 | m + 1,h,hs=>by
   by_cases e:m + 1=j
   ·rw [e]
   ·rw [cp (hs m (by omega) (by omega)),dF m (by omega) (fun i h1 h2=>hs i h1 (by omega))]
theorem fU {nx:Int} {w:Win} {t n:Nat} (ht:t≤n) (hs:isS w n=true):az nx w t (n + 1)≠[]:=by
 rw [az,if_neg (by omega),hs,if_pos rfl]
 split
 ·rename_i h
  obtain ⟨h1,h2⟩:=h
  have:=fU (nx:=nx) (t:=t) (n:=n - 1) (by omega) h2
  rw [show n - 1 + 1=n by omega] at this
  obtain ⟨l,p,e⟩ : ∃ l p,az nx w t n=l ++ [p]:=⟨_,_,(List.dropLast_concat_getLast this).symm⟩
  rw [e,db]
  simp
 ·simp
termination_by n
decreasing_by omega
theorem jR {nx:Int} {w:Win} {t:Nat} (ht:isS w t=false) (hs : ∀ i,i < t→isS w i=true) (hl:t≤w.length) : ∀ n,t≤n→az nx w 0 n=(if t=0 then [] else [(wadd nx 0,seg w 0 t)]) ++ az nx w t n
 | 0, h => by have:t=0:=by omega
              subst this;rfl
 | n + 1,h=>by
   by_cases e:n + 1=t
   ·rw [cV nx w t _ (by omega),if_neg (by omega), ← e,dv (j:=0) (Nat.le_refl _) (.inl rfl) (n + 1) (by omega) (by omega) (fun i _ h2=>hs i (by omega)),cV nx w 0 0 (Nat.le_refl _)]
    rfl
   ·have ih:=jR (nx:=nx) ht hs hl n (by omega)
    cases hn:isS w n with
    | false=>rw [cp hn,cp hn,ih]
    | true =>
      have hnt:n≠t:=by rintro rfl;rw [ht] at hn;cases hn
      cases hp:isS w (n - 1) with
      | false=>rw [dl (by omega) hn (.inr hp),dl (by omega) hn (.inr hp),ih,List.append_assoc]
      | true =>
        have h1:n - 1≠t:=by intro e2;rw [e2,ht] at hp;cases hp
        have hne:=fU (nx:=nx) (t:=t) (n:=n - 1) (by omega) hp
        rw [show n - 1 + 1=n by omega] at hne
        obtain ⟨l,p,e⟩ : ∃ l p,az nx w t n=l ++ [p]:=⟨_,_,(List.dropLast_concat_getLast hne).symm⟩
        rw [dG (by omega) hn hp,dG (by omega) hn hp,ih,e, ← List.append_assoc,db,db,List.append_assoc]
theorem jL (c:Int) : ∀ l:List Pt,(dJ c l).length=l.length
 | []=>rfl
 | [p]=>rfl
 | p::q::l=>by rw [dJ,List.length_cons,jL c (q::l)];rfl
theorem dQ (nx:Int) (w:Win) (t:Nat) : ∀ n,(az nx w t n).length≤n
 | 0=>Nat.le_refl _
 | n + 1=>by
   have:=dQ nx w t n
   rw [az]
   split
   ·simp
   ·split
    ·split
     ·rw [jL];omega
     ·simp;omega
    ·omega
def cv (r r' : Nat):List Pt→List (List AV)
 | []=>[]
 | p::l=>prg r p::l.map (prg r')
theorem eK (r r' : Nat) (l:List Pt):(cv r r' l).length=l.length:=by cases l<;>simp [cv]
theorem RowsRen.cons {q:Rn} {h:Hp} {a b:List AV} {x y:List (List AV)} (H:Cells q h a b) (h2:RowsRen q h x y):RowsRen q h (a::x) (b::y):=by
 simpa using RowsRen.app (RowsRen.one H) h2
theorem bx {L I F:Prs} {h:Hp} {r r' s s' : Nat} (h1:I.has r s=true) (h2:I.has r' s' = true) : ∀ l:List Pt,RowsRen (qOf L I F) h (cv r r' l) (cv s s' l)
 | []=>RowsRen.nil
 | p::l=>RowsRen.cons (.cons (.val _) (.cons (Ren.gg h1 p.2) .nil)) (aI h2 l)
theorem gh {L I F:Prs} {h:Hp} {r r' s s' t:Nat} (h1:I.has r s=true) (h2:I.has r' s' = true) (h3:I.has t s' = true) (p:Pt) : ∀ l:List Pt,l≠[]→RowsRen (qOf L I F) h (cv r r' l ++ [prg t p]) (cv s s' (l ++ [p]))
 | [],hl=>absurd rfl hl
 | a::l,_=>by
   show RowsRen _ _ (prg r a::(l.map (prg r') ++ [prg t p])) (prg s a::(l ++ [p]).map (prg s'))
   refine RowsRen.cons (.cons (.val _) (.cons (Ren.gg h1 a.2) .nil)) ?_
   rw [List.map_append]
   exact (aI h2 l).app (aI h3 [p])
theorem gi {L I F:Prs} {h:Hp} {s s' t:Nat} (h3:I.has t s=true) (p:Pt):RowsRen (qOf L I F) h ([] ++ [prg t p]) (cv s s' ([] ++ [p])):=by
 show RowsRen _ _ [prg t p] [prg s p]
 exact aI h3 [p]
theorem gC {w:Win} {j m:Nat} : ((w.map allR).drop j).take (m - j)=(seg w j m).map bR:=by
 have e:w.map allR=(vals w).map bR:=by simp [vals]
 rw [e,seg,List.map_take,List.map_drop]
theorem jA {w:Win} {i:Nat} (h:i < w.length):(w.map hasR)[(i:Int).toNat]?=some [.val (.bool (isS w i))]:=by
 simp [isS,List.getD,h]
theorem vR (nx:Int) (w:Win) (hw:w.length=2048):ACallL Tryz.prog 154 [.val (.int .i64 nx),.list 0 1 (w.map hasR),.list 0 1 (w.map allR)] [.perm] (.glist 1 2 (cv 2 3 (az nx w 0 2048))) [.perm,.uniq,.uniq,.uniq]:=by
 have ph:PlRows (w.map hasR):=PlRows.mapF _ _ fun x _=>plT
 have pa:PlRows (w.map allR):=PlRows.mapF _ _ fun x _=>plT
 have lh:(w.map hasR).length=2048:=by simp [hw]
 have la:(w.map allR).length=2048:=by simp [hw]
 refine ACallL.of_ev af Tryz.func154 rfl (fun a w=>Tryz.call154 a w) (congrArg Array.toList Tryz.results154) Tryz.ntmps154 fun B hB=>?_
 ((conv=>whnf);(repeat' ((first|refine gT ?_|(with_reducible refine ab (fun _=>?_) (fun _=>?_)))<;>(conv=>whnf))))
 refine qAW.scope af (X := { i:Nat // i≤2048∧(i=2048∨isS w i=false) }) (fun x=>0) (fun x=>ap 52 [(0,.val (.int .i64 nx)),(1,.list 0 1 (w.map hasR)),(2,.list 0 1 (w.map allR)),(6,.glist 1 2 (cv 2 3 (az nx w 0 x.1))),(7,.val (.int .i64 x.1))]) (fun x=>[.perm,.uniq,.uniq,.uniq]) (fun x=>2048 - x.1) (fun x=>rfl) ?_ ?_
 ·obtain ⟨i0,hi⟩ : ∃ i0:Nat,i0=0:=⟨_,rfl⟩
  have hi0:i0≤2048:=by omega
  have hbd0:i0=0∨i0=2048∨isS w i0=false := .inl hi
  ((conv=>whnf);(repeat' ((first|refine gT ?_|(with_reducible refine ab (fun _=>?_) (fun _=>?_)))<;>(conv=>whnf))))
  refine qAW.loop af (X:=Nat) (fun j=>ap 52 [(0,.val (.int .i64 nx)),(1,.list 0 1 (w.map hasR)),(2,.list 0 1 (w.map allR)),(6,.glist 1 2 (cv 2 3 (az nx w 0 i0))),(7,.val (.int .i64 j))]) (fun j=>[.perm,.uniq,.uniq,.uniq]) (fun j=>i0≤j∧j≤2048 ∧ ∀ i,i0≤i→i < j→isS w i=false) (fun j=>2048 - j) i0 ⟨Nat.le_refl _,hi0,fun i h1 h2=>by omega⟩ ?_ ?_
  ·first
   | ((refine qcv hB [] [(0,0),(1,1),(2,2),(3,3)] [] ?_;repeat' (with_reducible first|exact trivial|refine And.intro ?_ ?_));done)
   | (subst hi
      (refine qcv hB [] [(0,0)] [] ?_;repeat' (with_reducible first|exact trivial|refine And.intro ?_ ?_))
      all_goals first|rfl|exact ax _ (fun o:Option Int => .bool o.isSome) rfl|exact ax _ (fun o:Option Int => .int .u8 (o.getD 0)) rfl|exact bx rfl rfl _)
   | ((refine qcv hB [] [(0,0),(1,1),(2,2),(3,3)] [] ?_;repeat' (with_reducible first|exact trivial|refine And.intro ?_ ?_))
      all_goals first|rfl|exact ax _ (fun o:Option Int => .bool o.isSome) rfl|exact ax _ (fun o:Option Int => .int .u8 (o.getD 0)) rfl|exact bx rfl rfl _)
  ·rintro j ⟨hj1,hj2,hjs⟩
   have w1:=IntWalk.i64_in (j + 1) (by omega)
   by_cases hlt:(j:Int) < 2048
   ·have hrow:=jA (w:=w) (i:=j) (by omega)
    obtain ⟨b,hb⟩ : ∃ b,isS w j=b:=⟨_,rfl⟩
    rw [hb] at hrow
    cases b with
    | false =>
      ((conv=>whnf);(repeat' ((first|refine gT ?_|((with_reducible refine ai ?_ ?_);focus (simp [hw,hlt];done))|((with_reducible refine aj ?_ ?_);focus (simp [hw,hlt];done))|(with_reducible refine ab (fun _=>?_) (fun _=>?_))|(refine ak (idxL rfl rfl rfl rfl rfl rfl (by omega) hrow) ?_))<;>(conv=>whnf))))
      refine ⟨j + 1,⟨by omega,by omega,fun i h1 h2=>?_⟩,by omega,?_⟩
      ·by_cases e:i=j
       ·rw [e,hb]
       ·exact hjs i h1 (by omega)
      ·(refine qcv hB [] [(0,0),(1,1),(2,2),(3,3)] [] ?_;repeat' (with_reducible first|exact trivial|refine And.intro ?_ ?_))
       all_goals first|rfl|exact ax _ (fun o:Option Int => .bool o.isSome) rfl|exact ax _ (fun o:Option Int => .int .u8 (o.getD 0)) rfl|exact bx rfl rfl _|(simp [w1];done)
    | true =>
      have hne : ¬ j=2048:=by omega
      have hne' : ¬ (j:Int)=2048:=by omega
      ((conv=>whnf);(repeat' ((first|refine gT ?_|((with_reducible refine ai ?_ ?_);focus (simp [hw,hlt,hne'];done))|((with_reducible refine aj ?_ ?_);focus (simp [hw,hlt,hne'];done))|(with_reducible refine ab (fun _=>?_) (fun _=>?_))|(refine ak (idxL rfl rfl rfl rfl rfl rfl (by omega) hrow) ?_))<;>(conv=>whnf))))
      have hbd:j=0∨isS w (j - 1)=false:=by
       by_cases e:j=i0
       ·subst e
        rcases hbd0 with h|h|h
        ·exact .inl h
        ·omega
        ·rw [h] at hb;cases hb
       ·exact .inr (hjs (j - 1) (by omega) (by omega))
      have hr:=dF (nx:=nx) (w:=w) (t:=0) j hj1 hjs
      refine qAW.loop af (X:=Nat) (fun m=>ap 52 [(0,.val (.int .i64 nx)),(1,.list 0 1 (w.map hasR)),(2,.list 0 1 (w.map allR)),(6,.glist 1 2 (cv 2 3 (az nx w 0 i0))),(7,.val (.int .i64 m)),(8,.val (.int .i64 j))]) (fun m=>[.perm,.uniq,.uniq,.uniq]) (fun m=>j≤m∧m≤2048 ∧ ∀ i,j≤i→i < m→isS w i=true) (fun m=>2048 - m) j ⟨Nat.le_refl _,hj2,fun i h1 h2=>by omega⟩ ?_ ?_
      ·(refine qcv hB [] [(0,0),(1,1),(2,2),(3,3)] [] ?_;repeat' (with_reducible first|exact trivial|refine And.intro ?_ ?_))
       all_goals first|rfl|exact ax _ (fun o:Option Int => .bool o.isSome) rfl|exact ax _ (fun o:Option Int => .int .u8 (o.getD 0)) rfl|exact bx rfl rfl _
      ·rintro m ⟨hm1,hm2,hms⟩
       have w2:=IntWalk.i64_in (m + 1) (by omega)
       by_cases hlt2:(m:Int) < 2048
       ·have hrow2:=jA (w:=w) (i:=m) (by omega)
        obtain ⟨b2,hb2⟩ : ∃ b,isS w m=b:=⟨_,rfl⟩
        rw [hb2] at hrow2
        cases b2 with
        | true =>
          ((conv=>whnf);(repeat' ((first|refine gT ?_|((with_reducible refine ai ?_ ?_);focus (simp [hw,hlt2];done))|((with_reducible refine aj ?_ ?_);focus (simp [hw,hlt2];done))|(with_reducible refine ab (fun _=>?_) (fun _=>?_))|(refine ak (idxL rfl rfl rfl rfl rfl rfl (by omega) hrow2) ?_))<;>(conv=>whnf))))
          refine ⟨m + 1,⟨by omega,by omega,fun i h1 h2=>?_⟩,by omega,?_⟩
          ·by_cases e:i=m
           ·rw [e,hb2]
           ·exact hms i h1 (by omega)
          ·(refine qcv hB [] [(0,0),(1,1),(2,2),(3,3)] [] ?_;repeat' (with_reducible first|exact trivial|refine And.intro ?_ ?_))
           all_goals first|rfl|exact ax _ (fun o:Option Int => .bool o.isSome) rfl|exact ax _ (fun o:Option Int => .int .u8 (o.getD 0)) rfl|exact bx rfl rfl _|(simp [w2];done)
        | false =>
          have hjm:j < m:=by
           rcases Nat.lt_or_ge j m with h|h
           ·exact h
           ·have:j=m:=by omega
            rw [this,hb2] at hb;cases hb
          have hmb:m=2048∨isS w m=false := .inr hb2
          have hr2:=dv (nx:=nx) (w:=w) (t:=0) (Nat.zero_le _) hbd m hjm (by omega) hms
          rw [hr] at hr2
          have hsl:(seg w j m).length≤100000000:=by simp [seg,dU];omega
          have hseg:List.take ((some (m:Int)).getD (List.length (w.map allR)) - (some (j:Int)).getD 0).toNat (List.drop ((some (j:Int)).getD 0).toNat (List.map allR w))=(seg w j m).map bR:=by
           rw [← gC,Option.getD_some,Option.getD_some,Int.toNat_natCast,show ((m:Int) - j).toNat=m - j by omega]
          have hcb:0≤(some (j:Int)).getD 0∧(some (j:Int)).getD 0≤(some (m:Int)).getD ((w.map allR).length:Int)∧(some (m:Int)).getD ((w.map allR).length:Int)≤(none:Option Int).getD ((w.map allR).length:Int)∧(none:Option Int).getD ((w.map allR).length:Int)≤((w.map allR).length:Int)∧((none:Option Int)=none∨(some (m:Int))≠none):=by
           rw [la,Option.getD_some,Option.getD_some,Option.getD_none];exact ⟨by omega,by omega,by omega,by omega,.inl rfl⟩
          have pseg:PlRows (List.take ((some (m:Int)).getD (List.length (w.map allR)) - (some (j:Int)).getD 0).toNat (List.drop ((some (j:Int)).getD 0).toNat (List.map allR w))):=by rw [hseg];exact al _
          have hcl:ACallL Tryz.prog 128 [.list 0 1 ((seg w j m).map bR)] [.perm] (gL 1 (seg w j m)) [.perm,.uniq]:=eL (seg w j m) hsl
          rw [← hseg] at hcl
          ((conv=>whnf);(repeat' ((first|refine gT ?_|((with_reducible refine ai ?_ ?_);focus (simp [hw,hlt2];done))|((with_reducible refine aj ?_ ?_);focus (simp [hw,hlt2];done))|(with_reducible refine ab (fun _=>?_) (fun _=>?_))|(refine ak (slL rfl rfl rfl rfl rfl rfl rfl rfl hcb) ?_)|((with_reducible refine qcp (an _ _) ?_);refine pT ?_)|(refine ak (idxL rfl rfl rfl rfl rfl rfl (by omega) hrow2) ?_))<;>(conv=>whnf))))
          ((with_reducible refine qcf (fun r=>gL r (seg w j m)) (hcl) [(0,0)] [] ?_);refine sT ?_)
          obtain ⟨l0,hl0⟩ : ∃ l0,az nx w 0 i0=l0:=⟨_,rfl⟩
          have hll:=dQ nx w 0 i0
          rw [hl0] at hr2 hll
          rw [hl0]
          have hlr:=eK 2 3 l0
          ((conv=>whnf);(repeat' ((first|refine gT ?_|(with_reducible refine ab (fun _=>?_) (fun _=>?_))|(refine ak (apG (nb:=32) rfl rfl rfl rfl rfl rfl rfl rfl rfl rfl (by decide) rfl (by rw [hlr];simp;omega)) ?_))<;>(conv=>whnf))))
          cases l0 with
          | nil =>
            first|(refine ⟨⟨m,by omega,hmb⟩,rfl,?_,by dsimp only;omega⟩)|refine ⟨⟨m,by omega,hmb⟩,rfl,?_⟩
            (refine qcv hB [] [(0,0),(6,1),(2,2),(3,3),(4,2)] [] ?_;repeat' (with_reducible first|exact trivial|refine And.intro ?_ ?_))
            all_goals first|rfl|exact ax _ (fun o:Option Int => .bool o.isSome) rfl|exact ax _ (fun o:Option Int => .int .u8 (o.getD 0)) rfl|(rw [hr2];exact gi rfl _)
          | cons a l =>
            first|(refine ⟨⟨m,by omega,hmb⟩,rfl,?_,by dsimp only;omega⟩)|refine ⟨⟨m,by omega,hmb⟩,rfl,?_⟩
            (refine qcv hB [] [(0,0),(6,1),(2,2),(3,3),(4,3)] [] ?_;repeat' (with_reducible first|exact trivial|refine And.intro ?_ ?_))
            all_goals first|rfl|exact ax _ (fun o:Option Int => .bool o.isSome) rfl|exact ax _ (fun o:Option Int => .int .u8 (o.getD 0)) rfl|(rw [hr2];refine gh (r:=2) (r' := 3) (s:=2) (s' := 3) (t:=4) ?_ ?_ ?_ (wadd nx j,seg w j m) (a::l) (List.cons_ne_nil _ _)<;>rfl)
       ·have hm:m=2048:=by omega
        have hjm:j < m:=by omega
        have hmb:m=2048∨isS w m=false := .inl hm
        have hrow2:=hrow
        have hr2:=dv (nx:=nx) (w:=w) (t:=0) (Nat.zero_le _) hbd m hjm (by omega) hms
        rw [hr] at hr2
        have hsl:(seg w j m).length≤100000000:=by simp [seg,dU];omega
        have hseg:List.take ((some (m:Int)).getD (List.length (w.map allR)) - (some (j:Int)).getD 0).toNat (List.drop ((some (j:Int)).getD 0).toNat (List.map allR w))=(seg w j m).map bR:=by
         rw [← gC,Option.getD_some,Option.getD_some,Int.toNat_natCast,show ((m:Int) - j).toNat=m - j by omega]
        have hcb:0≤(some (j:Int)).getD 0∧(some (j:Int)).getD 0≤(some (m:Int)).getD ((w.map allR).length:Int)∧(some (m:Int)).getD ((w.map allR).length:Int)≤(none:Option Int).getD ((w.map allR).length:Int)∧(none:Option Int).getD ((w.map allR).length:Int)≤((w.map allR).length:Int)∧((none:Option Int)=none∨(some (m:Int))≠none):=by
         rw [la,Option.getD_some,Option.getD_some,Option.getD_none];exact ⟨by omega,by omega,by omega,by omega,.inl rfl⟩
        have pseg:PlRows (List.take ((some (m:Int)).getD (List.length (w.map allR)) - (some (j:Int)).getD 0).toNat (List.drop ((some (j:Int)).getD 0).toNat (List.map allR w))):=by rw [hseg];exact al _
        have hcl:ACallL Tryz.prog 128 [.list 0 1 ((seg w j m).map bR)] [.perm] (gL 1 (seg w j m)) [.perm,.uniq]:=eL (seg w j m) hsl
        rw [← hseg] at hcl
        ((conv=>whnf);(repeat' ((first|refine gT ?_|((with_reducible refine ai ?_ ?_);focus (simp [hw,hlt2];done))|((with_reducible refine aj ?_ ?_);focus (simp [hw,hlt2];done))|(with_reducible refine ab (fun _=>?_) (fun _=>?_))|(refine ak (slL rfl rfl rfl rfl rfl rfl rfl rfl hcb) ?_)|((with_reducible refine qcp (an _ _) ?_);refine pT ?_)|(refine ak (idxL rfl rfl rfl rfl rfl rfl (by omega) hrow2) ?_))<;>(conv=>whnf))))
        ((with_reducible refine qcf (fun r=>gL r (seg w j m)) (hcl) [(0,0)] [] ?_);refine sT ?_)
        obtain ⟨l0,hl0⟩ : ∃ l0,az nx w 0 i0=l0:=⟨_,rfl⟩
        have hll:=dQ nx w 0 i0
        rw [hl0] at hr2 hll
        rw [hl0]
        have hlr:=eK 2 3 l0
        ((conv=>whnf);(repeat' ((first|refine gT ?_|(with_reducible refine ab (fun _=>?_) (fun _=>?_))|(refine ak (apG (nb:=32) rfl rfl rfl rfl rfl rfl rfl rfl rfl rfl (by decide) rfl (by rw [hlr];simp;omega)) ?_))<;>(conv=>whnf))))
        cases l0 with
        | nil =>
          first|(refine ⟨⟨m,by omega,hmb⟩,rfl,?_,by dsimp only;omega⟩)|refine ⟨⟨m,by omega,hmb⟩,rfl,?_⟩
          (refine qcv hB [] [(0,0),(6,1),(2,2),(3,3),(4,2)] [] ?_;repeat' (with_reducible first|exact trivial|refine And.intro ?_ ?_))
          all_goals first|rfl|exact ax _ (fun o:Option Int => .bool o.isSome) rfl|exact ax _ (fun o:Option Int => .int .u8 (o.getD 0)) rfl|(rw [hr2];exact gi rfl _)
        | cons a l =>
          first|(refine ⟨⟨m,by omega,hmb⟩,rfl,?_,by dsimp only;omega⟩)|refine ⟨⟨m,by omega,hmb⟩,rfl,?_⟩
          (refine qcv hB [] [(0,0),(6,1),(2,2),(3,3),(4,3)] [] ?_;repeat' (with_reducible first|exact trivial|refine And.intro ?_ ?_))
          all_goals first|rfl|exact ax _ (fun o:Option Int => .bool o.isSome) rfl|exact ax _ (fun o:Option Int => .int .u8 (o.getD 0)) rfl|(rw [hr2];refine gh (r:=2) (r' := 3) (s:=2) (s' := 3) (t:=4) ?_ ?_ ?_ (wadd nx j,seg w j m) (a::l) (List.cons_ne_nil _ _)<;>rfl)
   ·have hj:j=2048:=by omega
    have hj2:(j:Int)=2048:=by omega
    ((conv=>whnf);(repeat' ((first|refine gT ?_|((with_reducible refine ai ?_ ?_);focus (simp [hw,hlt,hj2];done))|((with_reducible refine aj ?_ ?_);focus (simp [hw,hlt,hj2];done))|(with_reducible refine ab (fun _=>?_) (fun _=>?_)))<;>(conv=>whnf))))
    have hr:=dF (nx:=nx) (w:=w) (t:=0) j hj1 hjs
    rw [← hr,hj]
    (refine qcv hB [] [(0,0),(1,1),(2,2),(3,3)] [] ?_;repeat' (with_reducible first|exact trivial|refine And.intro ?_ ?_))
    all_goals first|rfl|exact bx rfl rfl _
 ·rintro ⟨i0,hi0,hbd⟩
  have hbd0:i0=0∨i0=2048∨isS w i0=false := .inr hbd
  ((conv=>whnf);(repeat' ((first|refine gT ?_|(with_reducible refine ab (fun _=>?_) (fun _=>?_)))<;>(conv=>whnf))))
  refine qAW.loop af (X:=Nat) (fun j=>ap 52 [(0,.val (.int .i64 nx)),(1,.list 0 1 (w.map hasR)),(2,.list 0 1 (w.map allR)),(6,.glist 1 2 (cv 2 3 (az nx w 0 i0))),(7,.val (.int .i64 j))]) (fun j=>[.perm,.uniq,.uniq,.uniq]) (fun j=>i0≤j∧j≤2048 ∧ ∀ i,i0≤i→i < j→isS w i=false) (fun j=>2048 - j) i0 ⟨Nat.le_refl _,hi0,fun i h1 h2=>by omega⟩ ?_ ?_
  ·first
   | ((refine qcv hB [] [(0,0),(1,1),(2,2),(3,3)] [] ?_;repeat' (with_reducible first|exact trivial|refine And.intro ?_ ?_));done)
   | (subst hi
      (refine qcv hB [] [(0,0)] [] ?_;repeat' (with_reducible first|exact trivial|refine And.intro ?_ ?_))
      all_goals first|rfl|exact ax _ (fun o:Option Int => .bool o.isSome) rfl|exact ax _ (fun o:Option Int => .int .u8 (o.getD 0)) rfl|exact bx rfl rfl _)
   | ((refine qcv hB [] [(0,0),(1,1),(2,2),(3,3)] [] ?_;repeat' (with_reducible first|exact trivial|refine And.intro ?_ ?_))
      all_goals first|rfl|exact ax _ (fun o:Option Int => .bool o.isSome) rfl|exact ax _ (fun o:Option Int => .int .u8 (o.getD 0)) rfl|exact bx rfl rfl _)
  ·rintro j ⟨hj1,hj2,hjs⟩
   have w1:=IntWalk.i64_in (j + 1) (by omega)
   by_cases hlt:(j:Int) < 2048
   ·have hrow:=jA (w:=w) (i:=j) (by omega)
    obtain ⟨b,hb⟩ : ∃ b,isS w j=b:=⟨_,rfl⟩
    rw [hb] at hrow
    cases b with
    | false =>
      ((conv=>whnf);(repeat' ((first|refine gT ?_|((with_reducible refine ai ?_ ?_);focus (simp [hw,hlt];done))|((with_reducible refine aj ?_ ?_);focus (simp [hw,hlt];done))|(with_reducible refine ab (fun _=>?_) (fun _=>?_))|(refine ak (idxL rfl rfl rfl rfl rfl rfl (by omega) hrow) ?_))<;>(conv=>whnf))))
      refine ⟨j + 1,⟨by omega,by omega,fun i h1 h2=>?_⟩,by omega,?_⟩
      ·by_cases e:i=j
       ·rw [e,hb]
       ·exact hjs i h1 (by omega)
      ·(refine qcv hB [] [(0,0),(1,1),(2,2),(3,3)] [] ?_;repeat' (with_reducible first|exact trivial|refine And.intro ?_ ?_))
       all_goals first|rfl|exact ax _ (fun o:Option Int => .bool o.isSome) rfl|exact ax _ (fun o:Option Int => .int .u8 (o.getD 0)) rfl|exact bx rfl rfl _|(simp [w1];done)
    | true =>
      have hne : ¬ j=2048:=by omega
      have hne' : ¬ (j:Int)=2048:=by omega
      ((conv=>whnf);(repeat' ((first|refine gT ?_|((with_reducible refine ai ?_ ?_);focus (simp [hw,hlt,hne'];done))|((with_reducible refine aj ?_ ?_);focus (simp [hw,hlt,hne'];done))|(with_reducible refine ab (fun _=>?_) (fun _=>?_))|(refine ak (idxL rfl rfl rfl rfl rfl rfl (by omega) hrow) ?_))<;>(conv=>whnf))))
      have hbd:j=0∨isS w (j - 1)=false:=by
       by_cases e:j=i0
       ·subst e
        rcases hbd0 with h|h|h
        ·exact .inl h
        ·omega
        ·rw [h] at hb;cases hb
       ·exact .inr (hjs (j - 1) (by omega) (by omega))
      have hr:=dF (nx:=nx) (w:=w) (t:=0) j hj1 hjs
      refine qAW.loop af (X:=Nat) (fun m=>ap 52 [(0,.val (.int .i64 nx)),(1,.list 0 1 (w.map hasR)),(2,.list 0 1 (w.map allR)),(6,.glist 1 2 (cv 2 3 (az nx w 0 i0))),(7,.val (.int .i64 m)),(8,.val (.int .i64 j))]) (fun m=>[.perm,.uniq,.uniq,.uniq]) (fun m=>j≤m∧m≤2048 ∧ ∀ i,j≤i→i < m→isS w i=true) (fun m=>2048 - m) j ⟨Nat.le_refl _,hj2,fun i h1 h2=>by omega⟩ ?_ ?_
      ·(refine qcv hB [] [(0,0),(1,1),(2,2),(3,3)] [] ?_;repeat' (with_reducible first|exact trivial|refine And.intro ?_ ?_))
       all_goals first|rfl|exact ax _ (fun o:Option Int => .bool o.isSome) rfl|exact ax _ (fun o:Option Int => .int .u8 (o.getD 0)) rfl|exact bx rfl rfl _
      ·rintro m ⟨hm1,hm2,hms⟩
       have w2:=IntWalk.i64_in (m + 1) (by omega)
       by_cases hlt2:(m:Int) < 2048
       ·have hrow2:=jA (w:=w) (i:=m) (by omega)
        obtain ⟨b2,hb2⟩ : ∃ b,isS w m=b:=⟨_,rfl⟩
        rw [hb2] at hrow2
        cases b2 with
        | true =>
          ((conv=>whnf);(repeat' ((first|refine gT ?_|((with_reducible refine ai ?_ ?_);focus (simp [hw,hlt2];done))|((with_reducible refine aj ?_ ?_);focus (simp [hw,hlt2];done))|(with_reducible refine ab (fun _=>?_) (fun _=>?_))|(refine ak (idxL rfl rfl rfl rfl rfl rfl (by omega) hrow2) ?_))<;>(conv=>whnf))))
          refine ⟨m + 1,⟨by omega,by omega,fun i h1 h2=>?_⟩,by omega,?_⟩
          ·by_cases e:i=m
           ·rw [e,hb2]
           ·exact hms i h1 (by omega)
          ·(refine qcv hB [] [(0,0),(1,1),(2,2),(3,3)] [] ?_;repeat' (with_reducible first|exact trivial|refine And.intro ?_ ?_))
           all_goals first|rfl|exact ax _ (fun o:Option Int => .bool o.isSome) rfl|exact ax _ (fun o:Option Int => .int .u8 (o.getD 0)) rfl|exact bx rfl rfl _|(simp [w2];done)
        | false =>
          have hjm:j < m:=by
           rcases Nat.lt_or_ge j m with h|h
           ·exact h
           ·have:j=m:=by omega
            rw [this,hb2] at hb;cases hb
          have hmb:m=2048∨isS w m=false := .inr hb2
          have hr2:=dv (nx:=nx) (w:=w) (t:=0) (Nat.zero_le _) hbd m hjm (by omega) hms
          rw [hr] at hr2
          have hsl:(seg w j m).length≤100000000:=by simp [seg,dU];omega
          have hseg:List.take ((some (m:Int)).getD (List.length (w.map allR)) - (some (j:Int)).getD 0).toNat (List.drop ((some (j:Int)).getD 0).toNat (List.map allR w))=(seg w j m).map bR:=by
           rw [← gC,Option.getD_some,Option.getD_some,Int.toNat_natCast,show ((m:Int) - j).toNat=m - j by omega]
          have hcb:0≤(some (j:Int)).getD 0∧(some (j:Int)).getD 0≤(some (m:Int)).getD ((w.map allR).length:Int)∧(some (m:Int)).getD ((w.map allR).length:Int)≤(none:Option Int).getD ((w.map allR).length:Int)∧(none:Option Int).getD ((w.map allR).length:Int)≤((w.map allR).length:Int)∧((none:Option Int)=none∨(some (m:Int))≠none):=by
           rw [la,Option.getD_some,Option.getD_some,Option.getD_none];exact ⟨by omega,by omega,by omega,by omega,.inl rfl⟩
          have pseg:PlRows (List.take ((some (m:Int)).getD (List.length (w.map allR)) - (some (j:Int)).getD 0).toNat (List.drop ((some (j:Int)).getD 0).toNat (List.map allR w))):=by rw [hseg];exact al _
          have hcl:ACallL Tryz.prog 128 [.list 0 1 ((seg w j m).map bR)] [.perm] (gL 1 (seg w j m)) [.perm,.uniq]:=eL (seg w j m) hsl
          rw [← hseg] at hcl
          ((conv=>whnf);(repeat' ((first|refine gT ?_|((with_reducible refine ai ?_ ?_);focus (simp [hw,hlt2];done))|((with_reducible refine aj ?_ ?_);focus (simp [hw,hlt2];done))|(with_reducible refine ab (fun _=>?_) (fun _=>?_))|(refine ak (slL rfl rfl rfl rfl rfl rfl rfl rfl hcb) ?_)|((with_reducible refine qcp (an _ _) ?_);refine pT ?_)|(refine ak (idxL rfl rfl rfl rfl rfl rfl (by omega) hrow2) ?_))<;>(conv=>whnf))))
          ((with_reducible refine qcf (fun r=>gL r (seg w j m)) (hcl) [(0,0)] [] ?_);refine sT ?_)
          obtain ⟨l0,hl0⟩ : ∃ l0,az nx w 0 i0=l0:=⟨_,rfl⟩
          have hll:=dQ nx w 0 i0
          rw [hl0] at hr2 hll
          rw [hl0]
          have hlr:=eK 2 3 l0
          ((conv=>whnf);(repeat' ((first|refine gT ?_|(with_reducible refine ab (fun _=>?_) (fun _=>?_))|(refine ak (apG (nb:=32) rfl rfl rfl rfl rfl rfl rfl rfl rfl rfl (by decide) rfl (by rw [hlr];simp;omega)) ?_))<;>(conv=>whnf))))
          cases l0 with
          | nil =>
            first|(refine ⟨⟨m,by omega,hmb⟩,rfl,?_,by dsimp only;omega⟩)|refine ⟨⟨m,by omega,hmb⟩,rfl,?_⟩
            (refine qcv hB [] [(0,0),(6,1),(2,2),(3,3),(4,2)] [] ?_;repeat' (with_reducible first|exact trivial|refine And.intro ?_ ?_))
            all_goals first|rfl|exact ax _ (fun o:Option Int => .bool o.isSome) rfl|exact ax _ (fun o:Option Int => .int .u8 (o.getD 0)) rfl|(rw [hr2];exact gi rfl _)
          | cons a l =>
            first|(refine ⟨⟨m,by omega,hmb⟩,rfl,?_,by dsimp only;omega⟩)|refine ⟨⟨m,by omega,hmb⟩,rfl,?_⟩
            (refine qcv hB [] [(0,0),(6,1),(2,2),(3,3),(4,3)] [] ?_;repeat' (with_reducible first|exact trivial|refine And.intro ?_ ?_))
            all_goals first|rfl|exact ax _ (fun o:Option Int => .bool o.isSome) rfl|exact ax _ (fun o:Option Int => .int .u8 (o.getD 0)) rfl|(rw [hr2];refine gh (r:=2) (r' := 3) (s:=2) (s' := 3) (t:=4) ?_ ?_ ?_ (wadd nx j,seg w j m) (a::l) (List.cons_ne_nil _ _)<;>rfl)
       ·have hm:m=2048:=by omega
        have hjm:j < m:=by omega
        have hmb:m=2048∨isS w m=false := .inl hm
        have hrow2:=hrow
        have hr2:=dv (nx:=nx) (w:=w) (t:=0) (Nat.zero_le _) hbd m hjm (by omega) hms
        rw [hr] at hr2
        have hsl:(seg w j m).length≤100000000:=by simp [seg,dU];omega
        have hseg:List.take ((some (m:Int)).getD (List.length (w.map allR)) - (some (j:Int)).getD 0).toNat (List.drop ((some (j:Int)).getD 0).toNat (List.map allR w))=(seg w j m).map bR:=by
         rw [← gC,Option.getD_some,Option.getD_some,Int.toNat_natCast,show ((m:Int) - j).toNat=m - j by omega]
        have hcb:0≤(some (j:Int)).getD 0∧(some (j:Int)).getD 0≤(some (m:Int)).getD ((w.map allR).length:Int)∧(some (m:Int)).getD ((w.map allR).length:Int)≤(none:Option Int).getD ((w.map allR).length:Int)∧(none:Option Int).getD ((w.map allR).length:Int)≤((w.map allR).length:Int)∧((none:Option Int)=none∨(some (m:Int))≠none):=by
         rw [la,Option.getD_some,Option.getD_some,Option.getD_none];exact ⟨by omega,by omega,by omega,by omega,.inl rfl⟩
        have pseg:PlRows (List.take ((some (m:Int)).getD (List.length (w.map allR)) - (some (j:Int)).getD 0).toNat (List.drop ((some (j:Int)).getD 0).toNat (List.map allR w))):=by rw [hseg];exact al _
        have hcl:ACallL Tryz.prog 128 [.list 0 1 ((seg w j m).map bR)] [.perm] (gL 1 (seg w j m)) [.perm,.uniq]:=eL (seg w j m) hsl
        rw [← hseg] at hcl
        ((conv=>whnf);(repeat' ((first|refine gT ?_|((with_reducible refine ai ?_ ?_);focus (simp [hw,hlt2];done))|((with_reducible refine aj ?_ ?_);focus (simp [hw,hlt2];done))|(with_reducible refine ab (fun _=>?_) (fun _=>?_))|(refine ak (slL rfl rfl rfl rfl rfl rfl rfl rfl hcb) ?_)|((with_reducible refine qcp (an _ _) ?_);refine pT ?_)|(refine ak (idxL rfl rfl rfl rfl rfl rfl (by omega) hrow2) ?_))<;>(conv=>whnf))))
        ((with_reducible refine qcf (fun r=>gL r (seg w j m)) (hcl) [(0,0)] [] ?_);refine sT ?_)
        obtain ⟨l0,hl0⟩ : ∃ l0,az nx w 0 i0=l0:=⟨_,rfl⟩
        have hll:=dQ nx w 0 i0
        rw [hl0] at hr2 hll
        rw [hl0]
        have hlr:=eK 2 3 l0
        ((conv=>whnf);(repeat' ((first|refine gT ?_|(with_reducible refine ab (fun _=>?_) (fun _=>?_))|(refine ak (apG (nb:=32) rfl rfl rfl rfl rfl rfl rfl rfl rfl rfl (by decide) rfl (by rw [hlr];simp;omega)) ?_))<;>(conv=>whnf))))
        cases l0 with
        | nil =>
          first|(refine ⟨⟨m,by omega,hmb⟩,rfl,?_,by dsimp only;omega⟩)|refine ⟨⟨m,by omega,hmb⟩,rfl,?_⟩
          (refine qcv hB [] [(0,0),(6,1),(2,2),(3,3),(4,2)] [] ?_;repeat' (with_reducible first|exact trivial|refine And.intro ?_ ?_))
          all_goals first|rfl|exact ax _ (fun o:Option Int => .bool o.isSome) rfl|exact ax _ (fun o:Option Int => .int .u8 (o.getD 0)) rfl|(rw [hr2];exact gi rfl _)
        | cons a l =>
          first|(refine ⟨⟨m,by omega,hmb⟩,rfl,?_,by dsimp only;omega⟩)|refine ⟨⟨m,by omega,hmb⟩,rfl,?_⟩
          (refine qcv hB [] [(0,0),(6,1),(2,2),(3,3),(4,3)] [] ?_;repeat' (with_reducible first|exact trivial|refine And.intro ?_ ?_))
          all_goals first|rfl|exact ax _ (fun o:Option Int => .bool o.isSome) rfl|exact ax _ (fun o:Option Int => .int .u8 (o.getD 0)) rfl|(rw [hr2];refine gh (r:=2) (r' := 3) (s:=2) (s' := 3) (t:=4) ?_ ?_ ?_ (wadd nx j,seg w j m) (a::l) (List.cons_ne_nil _ _)<;>rfl)
   ·have hj:j=2048:=by omega
    have hj2:(j:Int)=2048:=by omega
    ((conv=>whnf);(repeat' ((first|refine gT ?_|((with_reducible refine ai ?_ ?_);focus (simp [hw,hlt,hj2];done))|((with_reducible refine aj ?_ ?_);focus (simp [hw,hlt,hj2];done))|(with_reducible refine ab (fun _=>?_) (fun _=>?_)))<;>(conv=>whnf))))
    have hr:=dF (nx:=nx) (w:=w) (t:=0) j hj1 hjs
    rw [← hr,hj]
    (refine qcv hB [] [(0,0),(1,1),(2,2),(3,3)] [] ?_;repeat' (with_reducible first|exact trivial|refine And.intro ?_ ?_))
    all_goals first|rfl|exact bx rfl rfl _
end Go.Proofs.YtceohcbokbalhaaGreat
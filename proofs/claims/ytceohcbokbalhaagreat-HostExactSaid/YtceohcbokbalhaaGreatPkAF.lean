/- Contracts and plain laws, one behind the other: AhTcpB, AhTcpC, TcpL, AhTcpE, AhTcpF, AhTcpG, TcpL2, AhTcpH, AhTcpI. Conditions are said at each. -/
import Derived.Test.YtceohcbokbalhaaGreatPkAE
import Derived.Test.YtceohcbokbalhaaGreatPkAC
namespace Go.Proofs.YtceohcbokbalhaaGreat
open Go.RowKit
set_option linter.unusedVariables false
set_option linter.unusedSimpArgs false
set_option maxRecDepth 100000
set_option maxHeartbeats 4000000
theorem lmap {α β:Type} (f:α→β) (l:List α):l.length=(l.map f).length:=by simp
theorem sm (c:Cn) (hl:c.out.length≤100000000):ACallL Tryz.prog 87 [.agg (cnR 0 c)] [.perm] (.val (.bool (numB c))) [.perm]:=by
 have px:=al c.out
 have py:=ar c.parts
 have w:=IntWalk.i64_in ((c.out.length:Int) + 1) (by omega)
 unfold numB Cn.sent eqTm tm0
 rw [← w,lmap bR c.out,lmap (prt 0) c.parts]
 clear w
 obtain ⟨link,ip,pp,port,st,una,nx,win,out,inx,parts,closing,⟨on,left,wait,tries⟩⟩:=c
 dsimp only [cnR,cnL] at px py ⊢
 refine ACallL.of_ev af Tryz.func87 rfl (fun a w=>Tryz.call87 a w) (congrArg Array.toList Tryz.results87) Tryz.ntmps87 fun B hB=>?_
 ((conv=>whnf);(repeat' ((first|refine gT ?_|(with_reducible refine ab (fun _=>?_) (fun _=>?_))|(refine qCall.sent rfl ?_)|(refine qOpen.eq nz rfl rfl rfl rfl ?_))<;>(conv=>whnf))))
 all_goals (refine qcv hB [] [(0,0)] [] ?_;repeat' (with_reducible first|exact trivial|refine And.intro ?_ ?_))
 all_goals (simp only [*, cond_true,cond_false,Bool.true_or,Bool.or_true,Bool.false_or,Bool.or_false,Bool.true_and,Bool.false_and,Bool.and_true,Bool.and_false,Bool.not_true,Bool.not_false])
def mayC (c:Cn):Bool :=
 !decide (c.link < 0) && (!decide (1099511627776 < c.link) && (am c.ip 4294967295 && (am c.pp 65535 && (am c.port 65535 && (am c.win 65535 && (!decide (c.st < 0) && (!decide (8 < c.st) && (am c.una 4294967295 && (am c.nx 4294967295 &&
  (!decide (8192 < (c.out.length:Int)) && (mayB c.inx c.parts && (tmB c.tm && numB c))))))))))))
theorem wF (c:Cn):mayC c=cnB c:=by
 unfold mayC cnB
 rw [Bool.eq_iff_iff]
 simp only [am,Bool.and_eq_true,Bool.not_eq_true', decide_eq_false_iff_not,decide_eq_true_eq]
 constructor
 ·rintro ⟨h1,h2,h3,h4,h5,h6,h7,h8,h9,h10,h11,h12,h13,h14⟩
  exact ⟨⟨by omega,by omega⟩,h3,h4,h5,h7,h8,h9,h10,h6,h11,h12,h13,h14⟩
 ·rintro ⟨h1,h3,h4,h5,h7,h8,h9,h10,h6,h11,h12,h13,h14⟩
  exact ⟨by omega,by omega,h3,h4,h5,h6,h7,h8,h9,h10,h11,h12,h13,h14⟩
theorem dS (c:Cn) (hc:aA c):ACallL Tryz.prog 46 [.agg (cnR 0 c)] [.perm] (.val (.bool (cnB c))) [.perm]:=by
 have px:=al c.out
 have py:=ar c.parts
 have cN:=sm c hc.1
 have cB:=xN c.inx c.parts hc.2
 have cT:=sK c.tm
 rw [← wF]
 unfold mayC
 obtain ⟨bn,hn⟩ : ∃ b,numB c=b:=⟨_,rfl⟩
 obtain ⟨bb,hb⟩ : ∃ b,mayB c.inx c.parts=b:=⟨_,rfl⟩
 obtain ⟨bt,ht⟩ : ∃ b,tmB c.tm=b:=⟨_,rfl⟩
 rw [hn] at cN ⊢
 rw [hb] at cB ⊢
 rw [ht] at cT ⊢
 rw [lmap bR c.out]
 clear hn hb ht hc
 obtain ⟨link,ip,pp,port,st,una,nx,win,out,inx,parts,closing,⟨on,left,wait,tries⟩⟩:=c
 dsimp only [cnR,cnL,tmC] at px py cN cB cT ⊢
 refine ACallL.of_ev af Tryz.func46 rfl (fun a w=>Tryz.call46 a w) (congrArg Array.toList Tryz.results46) Tryz.ntmps46 fun B hB=>?_
 ((conv=>whnf);(repeat' ((first|refine gT ?_|(with_reducible refine ab (fun _=>?_) (fun _=>?_))|((with_reducible refine qcp (gH _) ?_);refine pT ?_)|((with_reducible refine qcp (lV _) ?_);refine pT ?_)|((with_reducible refine qcp (eY _) ?_);refine pT ?_)|((with_reducible refine qcp (cN) ?_);refine pT ?_)|((with_reducible refine qcp (cB) ?_);refine pT ?_)|((with_reducible refine qcp (cT) ?_);refine pT ?_))<;>(conv=>whnf))))
 all_goals (refine qcv hB [] [(0,0)] [] ?_;repeat' (with_reducible first|exact trivial|refine And.intro ?_ ?_))
 clear cN cB cT px py
 all_goals (simp only [*, cond_true,cond_false,Bool.true_or,Bool.or_true,Bool.false_or,Bool.or_false,Bool.true_and,Bool.false_and,Bool.and_true,Bool.and_false,Bool.not_true,Bool.not_false])
theorem sW (c:Cn) (hc:aA c):ACallL Tryz.prog 21 [.agg (cnR 0 c)] [.perm] (.val (.bool (cnB c))) [.perm]:=by
 have px:=al c.out
 have py:=ar c.parts
 have cB:=oG c.inx c.parts hc.2
 have cT:=oW c.tm
 have hl:=hc.1
 have w:=IntWalk.i64_in ((c.out.length:Int) + 1) (by omega)
 unfold cnB numB Cn.sent eqTm tm0
 obtain ⟨bb,hb⟩ : ∃ b,mayB c.inx c.parts=b:=⟨_,rfl⟩
 obtain ⟨bt,ht⟩ : ∃ b,tmB c.tm=b:=⟨_,rfl⟩
 rw [hb] at cB ⊢
 rw [ht] at cT ⊢
 rw [← w,lmap bR c.out,lmap (prt 0) c.parts]
 clear hb ht w hc hl
 have nl:=mT
 simp only [← am.eq_1] at nl
 obtain ⟨link,ip,pp,port,st,una,nx,win,out,inx,parts,closing,⟨on,left,wait,tries⟩⟩:=c
 dsimp only [cnR,cnL,tmC] at px py cB cT ⊢
 refine ACallL.of_ev af Tryz.func21 rfl (fun a w=>Tryz.call21 a w) (congrArg Array.toList Tryz.results21) Tryz.ntmps21 fun B hB=>?_
 ((conv=>whnf);(repeat' ((first|refine gT ?_|(with_reducible refine ab (fun _=>?_) (fun _=>?_))|((with_reducible refine qcp (nl _ _) ?_);refine pT ?_)|((with_reducible refine qcp (dx _) ?_);refine pT ?_)|((with_reducible refine qcp (cB) ?_);refine pT ?_)|((with_reducible refine qcp (cT) ?_);refine pT ?_)|(refine qCall.rsent rfl ?_)|(refine qOpen.eq nz rfl rfl rfl rfl ?_))<;>(conv=>whnf))))
 all_goals (refine qcv hB [] [(0,0)] [] ?_;repeat' (with_reducible first|exact trivial|refine And.intro ?_ ?_))
 clear cB cT px py nl
 all_goals (simp only [*, cond_true,cond_false,Bool.true_or,Bool.or_true,Bool.false_or,Bool.or_false,Bool.true_and,Bool.false_and,Bool.and_true,Bool.and_false,Bool.not_true,Bool.not_false])
abbrev spL (o p sg tl:AV) (c:Cn):List AV:=[.val (.int .i64 c.link),.val (.int .i64 c.ip),.val (.int .i64 c.pp),.val (.int .i64 c.port),.val (.int .i64 c.st),.val (.int .i64 c.una),.val (.int .i64 c.nx),.val (.int .i64 c.win),o,.val (.int .i64 c.inx),p,.val (.bool c.closing),.val (.bool c.tm.on),.val (.int .i64 c.tm.left),.val (.int .i64 c.tm.wait),.val (.int .i64 c.tm.tries),sg,tl]
abbrev oL:Bool→Nat→List Int→AV
 | true,r,xs=>gL r xs
 | false,r,xs=>bL r xs
abbrev spN (g:Bool) (o p d t s e:Nat) (x:Stp):List AV:=spL (oL g o x.c.out) (.list p 2 (x.c.parts.map (prg d))) (.glist s 7 (x.out.map (sgG e))) (gL t x.told) x.c
abbrev spR (g:Bool) (s d:Nat) (x:Stp):List AV:=spL (oL g 2 x.c.out) (.list 3 2 (x.c.parts.map (prg 4))) (.glist s 7 (x.out.map (sgG d))) (gL 5 x.told) x.c
abbrev spY (g:Bool) (s d:Nat) (x:Stp) (l:List Sg):List AV:=spL (oL g 2 x.c.out) (.list 3 2 (x.c.parts.map (prg 4))) (.glist s 7 (l.map (sgG d))) (gL 5 x.told) x.c
abbrev spO (row:List AV):Own := .live ⟨18,135,[row]⟩
theorem bq {L I F:Prs} {h:Hp} {r r' : Nat} (h0:I.has r r' = true) (l:List Sg):RowsRen (qOf L I F) h (l.map (sgG r)) (l.map (sgG r')) :=
 RowsRen.mapF l _ _ fun m _ => .cons (.val _) (.cons (.val _) (.cons (.val _) (.cons (.val _) (.cons (.val _) (.cons (.val _) (.cons (Ren.gg h0 m.data) .nil))))))
theorem Ren.sgs {L I F:Prs} {h:Hp} {r r' d d' : Nat} (h0:I.has r r' = true) (h1:I.has d d' = true) (l:List Sg):Ren (qOf L I F) h (.glist r 7 (l.map (sgG d))) (.glist r' 7 (l.map (sgG d'))):=by
 obtain ⟨a,b,c⟩:=bq (L:=L) (I:=I) (F:=F) (h:=h) h1 l
 exact .glist _ _ _ _ _ ((Prs.has_iff I r r').1 h0) a b c
theorem Ren.pgl {L I F:Prs} {h:Hp} {r r' d d' : Nat} (h0:I.has r r' = true) (h1:I.has d d' = true) (l:List Pt):Ren (qOf L I F) h (.list r 2 (l.map (prg d))) (.list r' 2 (l.map (prg d'))):=by
 obtain ⟨a,b,c⟩:=aI (L:=L) (I:=I) (F:=F) (h:=h) h1 l
 exact .list _ _ _ _ _ ((Prs.has_iff I r r').1 h0) a b c
theorem Ren.oo {L I F:Prs} {h:Hp} {r r' : Nat} (h0:I.has r r' = true) (g:Bool) (xs:List Int):Ren (qOf L I F) h (oL g r xs) (oL g r' xs):=by
 cases g
 ·exact Ren.ll h0 xs
 ·exact Ren.gg h0 xs
theorem Ren.sgs1 {L I F:Prs} {h:Hp} {r r' d d' e:Nat} {row:List AV} {m:Sg} {l:List Sg} (h0:I.has r r' = true) (h1:I.has d d' = true) (hr:row=sgG e m) (h2:I.has e d' = true):Ren (qOf L I F) h (.glist r 7 (l.map (sgG d) ++ [row])) (.glist r' 7 ((l ++ [m]).map (sgG d'))):=by
 subst hr
 obtain ⟨a,b,c⟩:=(bq (L:=L) (I:=I) (F:=F) (h:=h) h1 l).app (bq (L:=L) (I:=I) (F:=F) (h:=h) h2 [m])
 rw [← List.map_append] at a b c
 exact .glist _ _ _ _ _ ((Prs.has_iff I r r').1 h0) a b c
theorem cq {p:Prop} (h:p:=by first|((first|rfl|(refine RowsRen.one ?_;(repeat (refine Cells.cons ?_ ?_;focus (first|exact .val _|exact Ren.gg rfl _|exact Ren.ll rfl _|exact Ren.g2 rfl _|exact Ren.oo rfl _ _|exact Ren.vnil _ _|exact Ren.vgnil _ _|exact Ren.sgs rfl rfl _|exact Ren.sgs1 rfl rfl rfl rfl|exact Ren.pgl rfl rfl _|fail)));exact Cells.nil)|exact bq rfl _|exact aI rfl _|exact aH _);done)|fail):p:=h
theorem em (g:Bool) (x:Stp) (seq fl:Int) (data:List Int) (hd:data.length≤100000000) (hs:x.out.length≤100000000) :
 ACallL Tryz.prog 130 [.ptr 1 0 0,.val (.int .i64 seq),.val (.int .i64 fl),bL 2 data] [.perm,spO (spR g 6 7 x),.perm,.perm,.perm,.perm,.uniq,.uniq]
  (.tup []) [.perm,spO (spR g 8 9 (x.seg seq fl data)),.perm,.perm,.perm,.perm,.dead,.dead,.uniq,.uniq]:=by
 dsimp only [spR,spL,Stp.seg] at hs ⊢
 cases g
 all_goals
  dsimp only [oL]
  refine ACallL.of_ev af Tryz.func130 rfl (fun a w=>Tryz.call130 a w) (congrArg Array.toList Tryz.results130) Tryz.ntmps130 fun B hB=>?_
  ((conv=>whnf);(repeat' ((first|refine gT ?_|(with_reducible refine ab (fun _=>?_) (fun _=>?_)))<;>(conv=>whnf))))
  ((with_reducible refine qcf (fun r=>gL r data) (eL data hd) [(0,2)] [] ?_);refine sT ?_)
  ((conv=>whnf);(repeat' ((first|refine gT ?_|(with_reducible refine ab (fun _=>?_) (fun _=>?_))|(refine ak (apG (nb:=72) rfl rfl rfl rfl rfl rfl rfl rfl rfl rfl (by decide) rfl (by simp;omega)) ?_))<;>(conv=>whnf))))
  (refine qcv hB [(1,1)] [(0,0),(2,2),(3,3),(4,4),(5,5),(10,8),(7,9),(8,9)] [] ?_;repeat' (with_reducible first|exact trivial|refine And.intro ?_ ?_))
  all_goals (try exact cq)
theorem iP (g:Bool) (x:Stp) (hs:x.out.length≤100000000) :
 ACallL Tryz.prog 136 [.ptr 1 0 0] [.perm,spO (spR g 6 7 x),.perm,.perm,.perm,.perm,.uniq,.uniq]
  (.tup []) [.perm,spO (spR g 8 9 x.acks),.perm,.perm,.perm,.perm,.dead,.dead,.uniq,.uniq]:=by
 have cS:=em g x x.c.nx 16 [] (by simp) hs
 dsimp only [spR,spL,Stp.seg,Stp.acks] at hs cS ⊢
 cases g
 all_goals
  dsimp only [oL] at cS ⊢
  refine ACallL.of_ev af Tryz.func136 rfl (fun a w=>Tryz.call136 a w) (congrArg Array.toList Tryz.results136) Tryz.ntmps136 fun B hB=>?_
  ((conv=>whnf);(repeat' ((first|refine gT ?_|(with_reducible refine ab (fun _=>?_) (fun _=>?_)))<;>(conv=>whnf))))
 ·((with_reducible refine qco (cS) [(1,1)] [(0,0),(2,2),(3,3),(4,4),(5,5),(6,6),(7,7)] [] [(8,8),(9,9)] [(1,spO (spR false 8 9 x.acks)),(6,.dead),(7,.dead),(8,.uniq),(9,.uniq)] (.tup []) ?_);refine sT ?_)
  (refine qcv hB [(1,1)] [(0,0),(2,2),(3,3),(4,4),(5,5),(8,8),(9,9)] [] ?_;repeat' (with_reducible first|exact trivial|refine And.intro ?_ ?_))
  all_goals (try exact cq)
 ·((with_reducible refine qco (cS) [(1,1)] [(0,0),(2,2),(3,3),(4,4),(5,5),(6,6),(7,7)] [] [(8,8),(9,9)] [(1,spO (spR true 8 9 x.acks)),(6,.dead),(7,.dead),(8,.uniq),(9,.uniq)] (.tup []) ?_);refine sT ?_)
  (refine qcv hB [(1,1)] [(0,0),(2,2),(3,3),(4,4),(5,5),(8,8),(9,9)] [] ?_;repeat' (with_reducible first|exact trivial|refine And.intro ?_ ?_))
  all_goals (try exact cq)
theorem hY (g:Bool) (x:Stp) :
 ACallL Tryz.prog 102 [.ptr 1 0 0] [.perm,spO (spR g 6 7 x),.perm,.perm,.perm,.perm,.perm,.perm]
  (.tup []) [.perm,spO (spR g 6 7 x.shut),.perm,.perm,.perm,.perm,.perm,.perm]:=by
 dsimp only [spR,spL]
 cases g
 all_goals
  dsimp only [oL]
  refine ACallL.of_ev af Tryz.func102 rfl (fun a w=>Tryz.call102 a w) (congrArg Array.toList Tryz.results102) Tryz.ntmps102 fun B hB=>?_
  ((conv=>whnf);(repeat' ((first|refine gT ?_|(with_reducible refine ab (fun _=>?_) (fun _=>?_)))<;>(conv=>whnf))))
  (refine qcv hB [(1,1)] [(0,0),(2,2),(3,3),(4,4),(5,5),(6,6),(7,7)] [] ?_;repeat' (with_reducible first|exact trivial|refine And.intro ?_ ?_))
  all_goals (try exact cq)
theorem pU (g:Bool) (x:Stp) :
 ACallL Tryz.prog 93 [.ptr 1 0 0] [.perm,spO (spR g 6 7 x),.perm,.perm,.perm,.perm,.perm,.perm]
  (.val (.bool x.c.talks)) [.perm,spO (spR g 6 7 x),.perm,.perm,.perm,.perm,.perm,.perm]:=by
 unfold Cn.talks
 dsimp only [spR,spL]
 cases g
 all_goals
  dsimp only [oL]
  refine ACallL.of_ev af Tryz.func93 rfl (fun a w=>Tryz.call93 a w) (congrArg Array.toList Tryz.results93) Tryz.ntmps93 fun B hB=>?_
  ((conv=>whnf);(repeat' ((first|refine gT ?_|(with_reducible refine ab (fun _=>?_) (fun _=>?_)))<;>(conv=>whnf))))
  all_goals
   (refine qcv hB [(1,1)] [(0,0),(2,2),(3,3),(4,4),(5,5),(6,6),(7,7)] [] ?_;repeat' (with_reducible first|exact trivial|refine And.intro ?_ ?_))
   all_goals (try exact cq)
  all_goals simp only [*, Bool.true_or,Bool.false_or]
theorem wS (x:Stp) :
 ACallL Tryz.prog 146 [.ptr 1 0 0] [.perm,spO (spR false 6 7 x),.perm,.perm,.perm,.perm,.perm,.perm]
  (.val (.bool x.c.hears)) [.perm,spO (spR false 6 7 x),.perm,.perm,.perm,.perm,.perm,.perm]:=by
 unfold Cn.hears
 dsimp only [spR,spL,oL]
 refine ACallL.of_ev af Tryz.func146 rfl (fun a w=>Tryz.call146 a w) (congrArg Array.toList Tryz.results146) Tryz.ntmps146 fun B hB=>?_
 ((conv=>whnf);(repeat' ((first|refine gT ?_|(with_reducible refine ab (fun _=>?_) (fun _=>?_)))<;>(conv=>whnf))))
 all_goals
  (refine qcv hB [(1,1)] [(0,0),(2,2),(3,3),(4,4),(5,5),(6,6),(7,7)] [] ?_;repeat' (with_reducible first|exact trivial|refine And.intro ?_ ?_))
  all_goals (try exact cq)
 all_goals simp only [*, Bool.true_or,Bool.false_or]
theorem eR (x:Stp) :
 ACallL Tryz.prog 95 [.ptr 1 0 0] [.perm,spO (spR true 6 7 x),.perm,.perm,.perm,.perm,.perm,.perm]
  (.tup [.agg (cnL (gL 2 x.c.out) (.list 3 2 (x.c.parts.map (prg 4))) x.c),.glist 6 7 (x.out.map (sgG 7)),.val (.int .i64 0)]) [.perm,spO (spR true 6 7 x),.perm,.perm,.perm,.perm,.perm,.perm]:=by
 dsimp only [spR,spL,oL,cnL]
 refine ACallL.of_ev af Tryz.func95 rfl (fun a w=>Tryz.call95 a w) (congrArg Array.toList Tryz.results95) Tryz.ntmps95 fun B hB=>?_
 ((conv=>whnf);(repeat' ((first|refine gT ?_|(with_reducible refine ab (fun _=>?_) (fun _=>?_)))<;>(conv=>whnf))))
 (refine qcv hB [(1,1)] [(0,0),(2,2),(3,3),(4,4),(5,5),(6,6),(7,7)] [] ?_;repeat' (with_reducible first|exact trivial|refine And.intro ?_ ?_))
 all_goals (try exact cq)
theorem dB (c:Cn) (hc:aA c):ACallL Tryz.prog 92 [.agg (cnR 0 c)] [.perm] (.agg (cnG 1 2 3 c)) [.perm,.uniq,.uniq,.uniq]:=by
 obtain ⟨ho,hp⟩:=hc
 dsimp only [cnR,cnL,cnG]
 refine ACallL.of_ev af Tryz.func92 rfl (fun a w=>Tryz.call92 a w) (congrArg Array.toList Tryz.results92) Tryz.ntmps92 fun B hB=>?_
 ((conv=>whnf);(repeat' ((first|refine gT ?_|(with_reducible refine ab (fun _=>?_) (fun _=>?_)))<;>(conv=>whnf))))
 ((with_reducible refine qcf (fun r=>gL r c.out) (eL c.out ho) [(0,0)] [] ?_);refine sT ?_)
 ((conv=>whnf);(repeat' ((first|refine gT ?_|(with_reducible refine ab (fun _=>?_) (fun _=>?_)))<;>(conv=>whnf))))
 ((with_reducible refine qco (xX c.inx c.parts hp) [] [(0,0)] [] [(1,4),(2,5)] [(4,.uniq),(5,.uniq)] (.agg [.val (.int .i64 c.inx),.glist 4 2 (c.parts.map (prg 5))]) ?_);refine sT ?_)
 ((conv=>whnf);(repeat' ((first|refine gT ?_|(with_reducible refine ab (fun _=>?_) (fun _=>?_)))<;>(conv=>whnf))))
 (refine qcv hB [] [(0,0),(3,1),(4,2),(5,3)] [] ?_;repeat' (with_reducible first|exact trivial|refine And.intro ?_ ?_))
 all_goals first|rfl|exact aH _|exact aI rfl _
structure PumpOk (c:Cn):Prop where
 una:0≤c.una∧c.una≤4294967295
 nx:0≤c.nx∧c.nx≤4294967295
 s0:0≤c.sent
 s1:c.sent≤c.out.length
 len:c.out.length≤8192
 win:0≤c.win∧c.win≤65535
theorem iV {a b n:Int} (h0:0≤ah b a) (h1:0≤n) (h2:ah b a + n < 1000000):ah (wadd b n) a=ah b a + n:=by
 unfold ah wadd at *; omega
theorem eD {c:Cn} (h:PumpOk c):c.pumpN≤536∧c.sent + c.pumpN≤c.out.length∧c.sent + c.pumpN≤8192:=by
 have:=h.len
 unfold Cn.pumpN Cn.len
 omega
theorem dZ {y:Stp} (h:PumpOk y.c) (hn:0 < y.c.pumpN):y.pump1.c.sent=y.c.sent + y.c.pumpN:=by
 have h1:=h.s0
 have h2:=eD h
 show ah (wadd y.c.nx y.c.pumpN) y.c.una=_
 unfold Cn.sent at *
 exact iV (by omega) (by omega) (by omega)
theorem eC {y:Stp} (h:PumpOk y.c) (hn:0 < y.c.pumpN):PumpOk y.pump1.c:=by
 have h1:=dZ h hn
 have h2:=eD h
 have h3:=dK y.c.nx y.c.pumpN
 refine ⟨h.una,⟨h3.1,by show wadd y.c.nx y.c.pumpN≤_;omega⟩,by rw [h1];have:=h.s0;omega,by rw [h1];exact h2.2.1,h.len,h.win⟩
theorem jQ : ∀ (k k' : Nat) (y:Stp),PumpOk y.c→(y.c.len - y.c.sent).toNat≤k→(y.c.len - y.c.sent).toNat≤k' → pumpGo k y=pumpGo k' y
 | 0,0,y,_,_,_=>rfl
 | 0,k' + 1,y,h,h1,_=>by
   have:y.c.pumpN≤0:=by have:=h.s1;unfold Cn.pumpN Cn.len at *; omega
   rw [pumpGo,pumpGo,if_pos this]
 | k + 1,0,y,h,_,h1=>by
   have:y.c.pumpN≤0:=by have:=h.s1;unfold Cn.pumpN Cn.len at *; omega
   rw [pumpGo,pumpGo,if_pos this]
 | k + 1,k' + 1,y,h,h1,h2=>by
   rw [pumpGo,pumpGo]
   by_cases hn:y.c.pumpN≤0
   ·rw [if_pos hn,if_pos hn]
   ·rw [if_neg hn,if_neg hn]
    have h3:=dZ h (by omega)
    have h4:y.pump1.c.len=y.c.len:=rfl
    exact jQ k k' _ (eC h (by omega)) (by rw [h3,h4];omega) (by rw [h3,h4];omega)
theorem gw {y:Stp} (h:PumpOk y.c) (hn:0 < y.c.pumpN):pumpGo y.c.out.length y=pumpGo y.pump1.c.out.length y.pump1:=by
 have h2:=h.s0
 have h3:=dZ h hn
 have h4:=eD h
 have h5:y.pump1.c.out=y.c.out:=rfl
 obtain ⟨k,hk⟩ : ∃ k,y.c.out.length=k + 1:=⟨y.c.out.length - 1,by omega⟩
 have e:pumpGo y.c.out.length y=pumpGo k y.pump1:=by rw [hk,pumpGo,if_neg (by omega)]
 rw [e]
 have h6:y.pump1.c.len=k + 1:=by show (y.c.out.length:Int)=k + 1;omega
 exact jQ _ _ _ (eC h hn) (by rw [h3,h6];omega) (by rw [h3,h6,h5];omega)
theorem gZ {y:Stp} (hn:y.c.pumpN≤0) : ∀ k,pumpGo k y=y
 | 0=>rfl
 | k + 1=>by rw [pumpGo,if_pos hn]
theorem kC {n:Int} {ps:List Pt} (h:mayB n ps=true):dq ps:=by
 obtain ⟨_,h8,hin⟩:=eT h
 refine ⟨by omega,fun p hp=>?_⟩
 have:=hin p hp
 omega
theorem n8 {w:Win} (h:w.length=2048):lead w≤2048∧isS w (lead w)=false:=⟨by have:=lI w;omega,gY w⟩
theorem tY {n:Int} {ps:List Pt} (h:mayB n ps=true) (s:Int) (xs:List Int):mayB (reaS n ps s xs).1 (reaS n ps s xs).2.1=true:=by
 unfold reaS
 obtain ⟨W,hW⟩ : ∃ W,winS n ps s xs=W:=⟨_,rfl⟩
 have lW:W.length=2048:=by rw [← hW,dk]
 rw [hW]
 by_cases h8:8 < (az n W (lead W) 2048).length
 ·rw [if_pos h8];exact h
 ·rw [if_neg h8]
  obtain ⟨hl,hs⟩:=n8 lW
  have hr:=(qh (nx:=n) lW _ (lead W) rfl hl).may lW (t:=lead W) (Nat.le_refl _) hs
  rw [Int.sub_self] at hr
  simp only [mayB,gr,hr,Bool.true_and,Bool.and_true,decide_eq_true_eq]
  omega
theorem tb (n:Int) (ps:List Pt) (s:Int) (xs:List Int):(reaS n ps s xs).2.2.length≤2048:=by
 unfold reaS
 split
 ·simp
 ·have:=n8 (dk n ps s xs)
  rw [jx (by rw [dk];exact this.1)]
  omega
structure NumI (c:Cn):Prop where
 z:c.st=0→c.out=[]∧c.parts=[]∧c.tm=tm0
 a:c.st=1→c.sent=1
 b:c.st=4∨c.st=8→c.closing=true∧c.sent=0∧c.out=[]
 d:c.st=3∨c.st=6∨c.st=7→c.closing=true∧c.sent=c.out.length + 1
 e:c.st=2∨c.st=5→0≤c.sent∧c.sent≤c.out.length
theorem uH (a b:Tm):eqTm a b=true ↔ a=b:=by
 obtain ⟨on,left,wait,tries⟩:=a
 obtain ⟨on', left', wait', tries'⟩:=b
 simp only [eqTm,Bool.and_eq_true,beq_iff_eq,Tm.mk.injEq,and_true]
theorem oq {c:Cn} (hs:0≤c.st∧c.st≤8):numB c=true ↔ NumI c:=by
 have cases9:c.st=0∨c.st=1∨c.st=2∨c.st=3∨c.st=4∨c.st=5∨c.st=6∨c.st=7∨c.st=8:=by omega
 have nil : ∀ {α:Type} (l:List α),((l.length:Int)=0) ↔ l=[]:=fun l=>by rw [← List.length_eq_zero_iff];omega
 constructor
 ·intro h
  refine ⟨fun e=>?_,fun e=>?_,fun e=>?_,fun e=>?_,fun e=>?_⟩
  ·simp only [numB,e,beq_self_eq_true,cond_true,Bool.and_eq_true,beq_iff_eq,nil,uH] at h
   exact h
  ·simp only [numB,e,beq_self_eq_true,cond_true,show ((1:Int) == 0)=false by decide,cond_false,beq_iff_eq] at h
   exact h
  ·rcases e with e|e<;>simp only [numB,e,beq_self_eq_true,cond_true,show ((4:Int) == 0)=false by decide,show ((4:Int) == 1)=false by decide,show ((8:Int) == 0)=false by decide,show ((8:Int) == 1)=false by decide,show ((8:Int) == 4)=false by decide,Bool.true_or,Bool.or_true,cond_false,Bool.and_eq_true,beq_iff_eq,nil] at h<;>exact h
  ·rcases e with e|e|e<;>simp only [numB,e] at h<;>simpa [Bool.and_eq_true] using h
  ·rcases e with e|e<;>simp only [numB,e] at h<;>simpa [Bool.and_eq_true] using h
 ·rintro ⟨z,a,b,d,e⟩
  rcases cases9 with h|h|h|h|h|h|h|h|h
  ·obtain ⟨h1,h2,h3⟩:=z h;simp only [numB,h,h1,h2,h3];rfl
  ·have:=a h;simp only [numB,h,this];rfl
  ·have:=e (.inl h);simp only [numB,h];simpa using this
  ·have:=d (.inl h);simp only [numB,h];simpa using this
  ·have:=b (.inl h);simp only [numB,h];simpa using this
  ·have:=e (.inr h);simp only [numB,h];simpa using this
  ·have:=d (.inr (.inl h));simp only [numB,h];simpa using this
  ·have:=d (.inr (.inr h));simp only [numB,h];simpa using this
  ·have:=b (.inr h);simp only [numB,h];simpa using this
structure CnF (c:Cn):Prop where
 link:0≤c.link∧c.link≤1099511627776
 ip:0≤c.ip∧c.ip≤4294967295
 pp:0≤c.pp∧c.pp≤65535
 port:0≤c.port∧c.port≤65535
 st:0≤c.st∧c.st≤8
 una:0≤c.una∧c.una≤4294967295
 nx:0≤c.nx∧c.nx≤4294967295
 win:0≤c.win∧c.win≤65535
 len:c.out.length≤8192
 may:mayB c.inx c.parts=true
 tm:tmB c.tm=true
structure CnI (c:Cn):Prop extends CnF c where
 num:NumI c
theorem bh (c:Cn):cnB c=true ↔ CnI c:=by
 simp only [cnB,am,Bool.and_eq_true,decide_eq_true_eq,Bool.not_eq_true', decide_eq_false_iff_not]
 constructor
 ·rintro ⟨h1,h2,h3,h4,h5,h6,h7,h8,h9,h10,h11,h12,h13⟩
  have hs:0≤c.st∧c.st≤8:=by omega
  exact ⟨⟨h1,h2,h3,h4,hs,h7,h8,h9,by omega,h11,h12⟩,(oq hs).1 h13⟩
 ·rintro ⟨⟨h1,h2,h3,h4,hs,h7,h8,h9,h10,h11,h12⟩,h13⟩
  exact ⟨h1,h2,h3,h4,by omega,by omega,h7,h8,h9,by omega,h11,h12,(oq hs).2 h13⟩
theorem lg:tmB tm0=true:=by decide
theorem nY:tmB (ba 3)=true:=by decide
theorem lB:tmB (ba 20)=true:=by decide
theorem vI {n:Int} {ps:List Pt} (h:mayB n ps=true):mayB n []=true:=by
 have:=(eT h).1
 simp only [mayB,bG,am,Bool.and_eq_true,decide_eq_true_eq,and_true]
 exact ⟨by omega,by simp⟩
theorem nU {n:Int} {k:Int} : mayB (wadd n k) []=true:=by
 simp only [mayB,bG,gr,Bool.and_true,Bool.true_and,decide_eq_true_eq]
 simp
theorem CnF.shut {c:Cn} (h:CnF c):CnI c.shut :=
 ⟨⟨h.link,h.ip,h.pp,h.port,⟨by show (0:Int)≤0;decide,by show (0:Int)≤8;decide⟩,h.una,h.nx,h.win,by simp [Cn.shut],vI h.may,lg⟩,
   ⟨fun _=>⟨rfl,rfl,rfl⟩,fun e=>by simp [Cn.shut] at e,fun e=>by simp [Cn.shut] at e,fun e=>by simp [Cn.shut] at e,fun e=>by simp [Cn.shut] at e⟩⟩
theorem CnI.pumpOk {c:Cn} (h:CnI c) (ht:c.talks=true):PumpOk c:=by
 have:c.st=2∨c.st=5:=by simpa [Cn.talks] using ht
 obtain ⟨h1,h2⟩:=h.num.e this
 exact ⟨h.una,h.nx,h1,h2,h.len,h.win⟩
theorem uU {a s u:Int} (h0:0≤ah s u) (h1:ah s u≤8193) (h2:0 < ah a u) (h3:ah a s≤0):ah s a=ah s u - ah a u:=by
 unfold ah at *; omega
theorem mR {x:Stp} (h:CnI x.c) {m:Sg} (hm:sgB m=true) (h0:x.c.st≠0):CnI (x.ack m).1.c:=by
 have hm' : (0≤m.ack∧m.ack≤4294967295)∧(0≤m.win∧m.win≤65535):=by
  simp only [sgB,am,Bool.and_eq_true,decide_eq_true_eq] at hm
  exact ⟨hm.2.2.2.1,hm.2.2.2.2.2.1⟩
 have hst:=h.st
 unfold Stp.ack
 cases h1:(x.c.st == 1) with
 | true =>
   simp only [cond_true]
   cases (m.ack == x.c.nx) with
   | false=>exact h
   | true =>
     refine ⟨⟨h.link,h.ip,h.pp,h.port,⟨by show (0:Int)≤2;decide,by show (2:Int)≤8;decide⟩,h.nx,h.nx,hm'.2,h.len,h.may,lg⟩,⟨fun e=>?_,fun e=>?_,fun e=>?_,fun e=>?_,fun _=>?_⟩⟩
     ·exact absurd e (by show ¬ (2:Int)=0;decide)
     ·exact absurd e (by show ¬ (2:Int)=1;decide)
     ·exact absurd e (by show ¬ ((2:Int)=4∨(2:Int)=8);decide)
     ·exact absurd e (by show ¬ ((2:Int)=3∨(2:Int)=6∨(2:Int)=7);decide)
     ·have:ah x.c.nx x.c.nx=0:=by unfold ah;omega
      show 0≤ah x.c.nx x.c.nx∧ah x.c.nx x.c.nx≤x.c.out.length
      omega
 | false =>
   simp only [cond_false]
   have h1:x.c.st≠1:=by simpa using h1
   cases h2:decide (0 < ah m.ack x.c.nx) with
   | true=>exact h
   | false =>
     simp only [cond_false]
     have h2:ah m.ack x.c.nx≤0:=by simpa using h2
     cases h3:decide (ah m.ack x.c.una≤0) with
     | true=>exact ⟨⟨h.link,h.ip,h.pp,h.port,h.st,h.una,h.nx,hm'.2,h.len,h.may,h.tm⟩,⟨h.num.z,h.num.a,h.num.b,h.num.d,h.num.e⟩⟩
     | false =>
       simp only [cond_false]
       have h3:0 < ah m.ack x.c.una:=by simpa using h3
       have hlen:=h.len
       have hs:(x.c.st=2∨x.c.st=5)∧0≤x.c.sent∧x.c.sent≤x.c.out.length∨(x.c.st=3∨x.c.st=6∨x.c.st=7)∧x.c.closing=true∧x.c.sent=x.c.out.length + 1∨(x.c.st=4∨x.c.st=8)∧x.c.sent=0:=by
        have:(x.c.st=2∨x.c.st=5)∨(x.c.st=3∨x.c.st=6∨x.c.st=7)∨(x.c.st=4∨x.c.st=8):=by omega
        rcases this with e|e|e
        ·exact .inl ⟨e,h.num.e e⟩
        ·exact .inr (.inl ⟨e,h.num.d e⟩)
        ·exact .inr (.inr ⟨e,(h.num.b e).2.1⟩)
       have hsd:0≤ah x.c.nx x.c.una∧ah x.c.nx x.c.una≤8193:=by unfold Cn.sent at hs;omega
       have hk:=uU hsd.1 hsd.2 h3 h2
       have hw:=bY x.c.nx m.ack
       have hd:ah m.ack x.c.una≤ah x.c.nx x.c.una:=by unfold ah at *; omega
       have hF:CnF (x.c.ackC m):=⟨h.link,h.ip,h.pp,h.port,h.st,hm'.1,h.nx,hm'.2,by show (x.c.out.drop _).length≤_;simp;omega,h.may,lg⟩
       have hl:((x.c.ackC m).out.length:Int)=x.c.out.length - min (ah m.ack x.c.una) x.c.out.length:=by
        show ((x.c.out.drop _).length:Int)=_
        simp;omega
       have hsn:(x.c.ackC m).sent=ah x.c.nx x.c.una - ah m.ack x.c.una:=hk
       unfold Cn.sent at hs
       cases h4:(eO x.c.st && (ah x.c.nx m.ack == 0)) with
       | false =>
         simp only [cond_false]
         simp only [Bool.and_eq_false_iff,eO,decide_eq_false_iff_not,beq_eq_false_iff_ne] at h4
         refine ⟨hF,⟨fun e=>absurd e h0,fun e=>absurd e h1,fun e=>?_,fun e=>?_,fun e=>?_⟩⟩
         ·have e:x.c.st=4∨x.c.st=8:=e
          omega
         ·have e:x.c.st=3∨x.c.st=6∨x.c.st=7:=e
          rcases hs with ⟨hs1,_⟩|⟨_,hs2,hs3⟩|⟨hs1,_⟩
          ·omega
          ·exact ⟨hs2,by rw [hsn,hl];omega⟩
          ·omega
         ·have e:x.c.st=2∨x.c.st=5:=e
          rw [hsn,hl]
          rcases hs with ⟨_,hs2,hs3⟩|⟨hs1,_⟩|⟨hs1,_⟩<;>omega
       | true =>
         simp only [cond_true]
         simp only [Bool.and_eq_true,eO,decide_eq_true_eq,beq_iff_eq] at h4
         obtain ⟨h4,h5⟩:=h4
         obtain ⟨hs1,hs2,hs3⟩:(x.c.st=3∨x.c.st=6∨x.c.st=7)∧x.c.closing=true∧ah x.c.nx x.c.una=x.c.out.length + 1:=by
          rcases hs with ⟨hs1,_⟩|hs|⟨hs1,hs2⟩
          ·omega
          ·exact hs
          ·omega
         have hnil:(x.c.ackC m).out=[]:=by rw [← List.length_eq_zero_iff];omega
         cases h6:(x.c.st == 3) with
         | true =>
           refine ⟨⟨hF.link,hF.ip,hF.pp,hF.port,⟨by show (0:Int)≤4;decide,by show (4:Int)≤8;decide⟩,hF.una,hF.nx,hF.win,hF.len,hF.may,hF.tm⟩,⟨fun e=>?_,fun e=>?_,fun _=>⟨hs2,h5,hnil⟩,fun e=>?_,fun e=>?_⟩⟩
           ·exact absurd e (by show ¬ (4:Int)=0;decide)
           ·exact absurd e (by show ¬ (4:Int)=1;decide)
           ·exact absurd e (by show ¬ ((4:Int)=3∨(4:Int)=6∨(4:Int)=7);decide)
           ·exact absurd e (by show ¬ ((4:Int)=2∨(4:Int)=5);decide)
         | false =>
           simp only [cond_false]
           cases h7:(x.c.st == 6) with
           | true =>
             refine ⟨⟨hF.link,hF.ip,hF.pp,hF.port,⟨by show (0:Int)≤8;decide,by show (8:Int)≤8;decide⟩,hF.una,hF.nx,hF.win,hF.len,hF.may,lB⟩,⟨fun e=>?_,fun e=>?_,fun _=>⟨hs2,h5,hnil⟩,fun e=>?_,fun e=>?_⟩⟩
             ·exact absurd e (by show ¬ (8:Int)=0;decide)
             ·exact absurd e (by show ¬ (8:Int)=1;decide)
             ·exact absurd e (by show ¬ ((8:Int)=3∨(8:Int)=6∨(8:Int)=7);decide)
             ·exact absurd e (by show ¬ ((8:Int)=2∨(8:Int)=5);decide)
           | false =>
             simp only [cond_false]
             cases h8:(x.c.st == 7) with
             | true=>exact hF.shut
             | false=>simp only [beq_eq_false_iff_ne] at h6 h7 h8;omega
theorem aN {p:Prop} (h:p:=by first|((first|rfl|(refine RowsRen.one ?_;(repeat (refine Cells.cons ?_ ?_;focus (first|exact .val _|exact Ren.gg rfl _|exact Ren.ll rfl _|exact Ren.g2 rfl _|exact Ren.oo rfl _ _|exact Ren.vnil _ _|exact Ren.vgnil _ _|exact Ren.sgs rfl rfl _|exact Ren.sgs1 rfl rfl rfl rfl|exact Ren.pgl rfl rfl _|fail)));exact Cells.nil)|exact bq rfl _|exact aI rfl _|exact aH _);done)|fail):p:=h
theorem pw (x:Stp) (hP:PumpOk x.c) (hs:x.out.length≤100000) :
 ACallL Tryz.prog 94 [.ptr 1 0 0] [.perm,spO (spR false 6 7 x),.perm,.perm,.perm,.perm,.uniq,.uniq]
  (.tup []) [.perm,spO (spR false 8 9 x.pump),.perm,.perm,.perm,.perm,.dead,.dead,.uniq,.uniq]:=by
 dsimp only [spR,spL,oL]
 refine ACallL.of_ev af Tryz.func94 rfl (fun a w=>Tryz.call94 a w) (congrArg Array.toList Tryz.results94) Tryz.ntmps94 fun B hB=>?_
 ((conv=>whnf);(repeat' ((first|refine gT ?_|(with_reducible refine ab (fun _=>?_) (fun _=>?_)))<;>(conv=>whnf))))
 refine qAW.scopeL af rfl (X:=Stp) (fun y=>ap 145 [(0,.ptr 1 0 0)]) (fun y=>[.perm,spO (spR false 8 9 y),.perm,.perm,.perm,.perm,.dead,.dead,.uniq,.uniq])
  (fun y=>PumpOk y.c∧y.out.length + (y.c.len - y.c.sent)≤x.out.length + 8192∧pumpGo y.c.out.length y=pumpGo x.c.out.length x) (fun y=>(y.c.len - y.c.sent).toNat) ?_ ?_
 ·((conv=>whnf);(repeat' ((first|refine gT ?_|(with_reducible refine ab (fun _=>?_) (fun _=>?_)))<;>(conv=>whnf))))
  refine ⟨x,⟨hP,by have:=hP.s0;have:=hP.len;unfold Cn.len;omega,rfl⟩,?_⟩
  (refine qcv hB [(1,1)] [(0,0),(2,2),(3,3),(4,4),(5,5),(6,8),(7,9)] [] ?_;repeat' (with_reducible first|exact trivial|refine And.intro ?_ ?_))
  all_goals (try exact aN)
 ·rintro E y ⟨hy,hb,hg⟩ hE
  have h0:=hy.s0
  have h1:=hy.s1
  have h2:=hy.len
  have h3:=hy.win
  have lo:(y.c.out.map bR).length=y.c.out.length:=by simp
  unfold Cn.sent at h0 h1
  have w1:=IntWalk.i64_in ((y.c.out.length:Int) - ah y.c.nx y.c.una) (by omega)
  have w2:=IntWalk.i64_in (y.c.win - ah y.c.nx y.c.una) (by omega)
  dsimp only [spR,spL,oL]
  by_cases hn:0 < y.c.pumpN
  ·obtain ⟨a,ha⟩ : ∃ a:Nat,ah y.c.nx y.c.una=a:=⟨(ah y.c.nx y.c.una).toNat,by omega⟩
   obtain ⟨N,hN⟩ : ∃ N:Nat,y.c.pumpN=N:=⟨y.c.pumpN.toNat,by omega⟩
   have hle:=eD hy
   have h1' := eC hy hn
   have h2' := dZ hy hn
   have hgs:=gw hy hn
   have hM:min (min 536 (IntKind.i64.wrap (((y.c.out.map bR).length:Int) - ah y.c.nx y.c.una))) (IntKind.i64.wrap (y.c.win - ah y.c.nx y.c.una))=N:=by rw [lo,w1,w2, ← hN];unfold Cn.pumpN Cn.len Cn.sent;omega
   have hcond:decide (0 < min (min 536 (IntKind.i64.wrap (((y.c.out.map bR).length:Int) - ah y.c.nx y.c.una))) (IntKind.i64.wrap (y.c.win - ah y.c.nx y.c.una)))=true:=by rw [hM];simp;omega
   have hsn:y.c.sent=a:=ha
   have w3:IntKind.i64.wrap (ah y.c.nx y.c.una + min (min 536 (IntKind.i64.wrap (((y.c.out.map bR).length:Int) - ah y.c.nx y.c.una))) (IntKind.i64.wrap (y.c.win - ah y.c.nx y.c.una)))=a + N:=by rw [hM,ha];exact IntWalk.i64_in _ (by omega)
   obtain ⟨data,hda⟩ : ∃ d,(y.c.out.drop a).take N=d:=⟨_,rfl⟩
   have cS:=em false y y.c.nx 24 data (by rw [← hda];simp;omega) (by unfold Cn.len at hb;omega)
   have hcb:0≤(some (ah y.c.nx y.c.una)).getD 0∧(some (ah y.c.nx y.c.una)).getD 0≤(some (IntKind.i64.wrap (ah y.c.nx y.c.una + min (min 536 (IntKind.i64.wrap (((y.c.out.map bR).length:Int) - ah y.c.nx y.c.una))) (IntKind.i64.wrap (y.c.win - ah y.c.nx y.c.una))))).getD ((y.c.out.map bR).length:Int)∧(some (IntKind.i64.wrap (ah y.c.nx y.c.una + min (min 536 (IntKind.i64.wrap (((y.c.out.map bR).length:Int) - ah y.c.nx y.c.una))) (IntKind.i64.wrap (y.c.win - ah y.c.nx y.c.una))))).getD ((y.c.out.map bR).length:Int)≤(none:Option Int).getD ((y.c.out.map bR).length:Int)∧(none:Option Int).getD ((y.c.out.map bR).length:Int)≤((y.c.out.map bR).length:Int)∧((none:Option Int)=none∨(some (IntKind.i64.wrap (ah y.c.nx y.c.una + min (min 536 (IntKind.i64.wrap (((y.c.out.map bR).length:Int) - ah y.c.nx y.c.una))) (IntKind.i64.wrap (y.c.win - ah y.c.nx y.c.una)))))≠none):=by
    simp only [Option.getD_some,Option.getD_none]
    rw [w3,ha,lo]
    exact ⟨by omega,by omega,by omega,by omega,.inl trivial⟩
   have hsl:((y.c.out.map bR).drop ((some (ah y.c.nx y.c.una)).getD 0).toNat).take ((some (IntKind.i64.wrap (ah y.c.nx y.c.una + min (min 536 (IntKind.i64.wrap (((y.c.out.map bR).length:Int) - ah y.c.nx y.c.una))) (IntKind.i64.wrap (y.c.win - ah y.c.nx y.c.una))))).getD ((y.c.out.map bR).length:Int) - (some (ah y.c.nx y.c.una)).getD 0).toNat=data.map bR:=by
    simp only [Option.getD_some]
    rw [w3,ha, ← hda,List.map_take,List.map_drop,show ((a:Int) + N - a).toNat=N by omega,Int.toNat_natCast]
   subst hE
   ((conv=>whnf);(repeat' ((first|refine gT ?_|((with_reducible refine ai ?_ ?_);focus (simp [lo,w1,w2];done))|((with_reducible refine aj ?_ ?_);focus (simp [lo,w1,w2];done))|(with_reducible refine ab (fun _=>?_) (fun _=>?_))|(refine qCall.sent rfl ?_)|(refine ak (slL' rfl rfl rfl rfl rfl rfl rfl rfl hcb hsl) ?_))<;>(conv=>whnf))))
   ((with_reducible refine qco (cS) [(1,1)] [(0,0),(2,2),(3,3),(4,4),(5,5),(6,8),(7,9)] [] [(8,10),(9,11)] [(1,spO (spR false 10 11 (y.seg y.c.nx 24 data))),(8,.dead),(9,.dead),(10,.uniq),(11,.uniq)] (.tup []) ?_);refine sT ?_)
   ((conv=>whnf);(repeat' ((first|refine gT ?_|(with_reducible refine ab (fun _=>?_) (fun _=>?_))|((with_reducible refine qcp (an _ _) ?_);refine pT ?_))<;>(conv=>whnf))))
   have hp1:y.pump1 = { c := { y.c with nx:=wadd y.c.nx N }, out:=y.out ++ [⟨y.c.port,y.c.pp,y.c.nx,y.c.inx,24,2048,data⟩],told:=y.told }:=by
    unfold Stp.pump1;rw [hN,hsn,Int.toNat_natCast,Int.toNat_natCast,hda]
   refine ⟨y.pump1,⟨h1', ?_,?_⟩,?_,?_⟩
   ·rw [h2']
    have e1:y.pump1.c.len=y.c.len:=rfl
    have e2:y.pump1.out.length=y.out.length + 1:=by rw [hp1];simp
    rw [e1,e2];omega
   ·rw [← hgs];exact hg
   ·rw [h2']
    have e1:y.pump1.c.len=y.c.len:=rfl
    have e3:y.c.len=y.c.out.length:=rfl
    rw [e1];omega
   ·rw [hp1,hM]
    (refine qcv hB [(1,1)] [(0,0),(2,2),(3,3),(4,4),(5,5),(10,8),(11,9)] [] ?_;repeat' (with_reducible first|exact trivial|refine And.intro ?_ ?_))
    all_goals (try exact aN)
  ·have hxe:pumpGo x.c.out.length x=y:=by rw [← hg];exact gZ (by omega) _
   have hM:min (min 536 (IntKind.i64.wrap (((y.c.out.map bR).length:Int) - ah y.c.nx y.c.una))) (IntKind.i64.wrap (y.c.win - ah y.c.nx y.c.una))=y.c.pumpN:=by rw [lo,w1,w2];unfold Cn.pumpN Cn.len Cn.sent;omega
   have hcond:decide (0 < min (min 536 (IntKind.i64.wrap (((y.c.out.map bR).length:Int) - ah y.c.nx y.c.una))) (IntKind.i64.wrap (y.c.win - ah y.c.nx y.c.una)))=false:=by rw [hM];simp;omega
   have hx0:x.pump=y.pump2.pump3:=by unfold Stp.pump;rw [hxe]
   subst hE
   rcases (Bool.eq_false_or_eq_true y.c.closing).symm with hcl|hcl
   ·have hx:x.pump=y.pump3:=by rw [hx0];unfold Stp.pump2;rw [if_neg (by rw [hcl];simp)]
    rcases (Bool.eq_false_or_eq_true y.c.tm.on).symm with ho|ho
    ·cases hp:decide (0 < ah y.c.nx y.c.una)
     ·cases hq:decide (ah y.c.nx y.c.una < ((y.c.out.map bR).length:Int))
      ·have hz:x.pump=y:=by
        rw [hx];unfold Stp.pump3;rw [if_neg]
        rw [decide_eq_false_iff_not] at hp hq
        rw [lo] at hq
        rintro ⟨_,h|h⟩
        ·exact hp h
        ·exact hq h
       rw [hz]
       ((conv=>whnf);(repeat' ((first|refine gT ?_|((with_reducible refine ai ?_ ?_);focus (simp [lo];done))|((with_reducible refine aj ?_ ?_);focus (simp [lo];done))|(with_reducible refine ab (fun _=>?_) (fun _=>?_))|(refine qCall.sent rfl ?_)|((with_reducible refine qcp (an _ _) ?_);refine pT ?_)|((with_reducible refine qcp (aF _) ?_);refine pT ?_))<;>(conv=>whnf))))
       (refine qcv hB [(1,1)] [(0,0),(2,2),(3,3),(4,4),(5,5),(8,8),(9,9)] [] ?_;repeat' (with_reducible first|exact trivial|refine And.intro ?_ ?_))
       all_goals (try exact aN)
      ·have hz:x.pump = { y with c := { (y).c with tm:=ba 3 } }:=by
        rw [hx];unfold Stp.pump3;rw [if_pos]
        rw [decide_eq_true_eq,lo] at hq
        exact ⟨ho,.inr hq⟩
       rw [hz]
       ((conv=>whnf);(repeat' ((first|refine gT ?_|((with_reducible refine ai ?_ ?_);focus (simp [lo];done))|((with_reducible refine aj ?_ ?_);focus (simp [lo];done))|(with_reducible refine ab (fun _=>?_) (fun _=>?_))|(refine qCall.sent rfl ?_)|((with_reducible refine qcp (an _ _) ?_);refine pT ?_)|((with_reducible refine qcp (aF _) ?_);refine pT ?_))<;>(conv=>whnf))))
       (refine qcv hB [(1,1)] [(0,0),(2,2),(3,3),(4,4),(5,5),(8,8),(9,9)] [] ?_;repeat' (with_reducible first|exact trivial|refine And.intro ?_ ?_))
       all_goals (try exact aN)
     ·have hz:x.pump = { y with c := { (y).c with tm:=ba 3 } }:=by
       rw [hx];unfold Stp.pump3;rw [if_pos]
       rw [decide_eq_true_eq] at hp
       exact ⟨ho,.inl hp⟩
      rw [hz]
      ((conv=>whnf);(repeat' ((first|refine gT ?_|((with_reducible refine ai ?_ ?_);focus (simp [lo];done))|((with_reducible refine aj ?_ ?_);focus (simp [lo];done))|(with_reducible refine ab (fun _=>?_) (fun _=>?_))|(refine qCall.sent rfl ?_)|((with_reducible refine qcp (an _ _) ?_);refine pT ?_)|((with_reducible refine qcp (aF _) ?_);refine pT ?_))<;>(conv=>whnf))))
      (refine qcv hB [(1,1)] [(0,0),(2,2),(3,3),(4,4),(5,5),(8,8),(9,9)] [] ?_;repeat' (with_reducible first|exact trivial|refine And.intro ?_ ?_))
      all_goals (try exact aN)
    ·have hz:x.pump=y:=by
      rw [hx];unfold Stp.pump3;rw [if_neg]
      rintro ⟨h,_⟩
      exact absurd (ho.symm.trans h) (by simp)
     rw [hz]
     ((conv=>whnf);(repeat' ((first|refine gT ?_|((with_reducible refine ai ?_ ?_);focus (simp [lo];done))|((with_reducible refine aj ?_ ?_);focus (simp [lo];done))|(with_reducible refine ab (fun _=>?_) (fun _=>?_))|(refine qCall.sent rfl ?_)|((with_reducible refine qcp (an _ _) ?_);refine pT ?_)|((with_reducible refine qcp (aF _) ?_);refine pT ?_))<;>(conv=>whnf))))
     (refine qcv hB [(1,1)] [(0,0),(2,2),(3,3),(4,4),(5,5),(8,8),(9,9)] [] ?_;repeat' (with_reducible first|exact trivial|refine And.intro ?_ ?_))
     all_goals (try exact aN)
   ·cases hse:(ah y.c.nx y.c.una == ((y.c.out.map bR).length:Int))
    ·have hx:x.pump=y.pump3:=by
      rw [hx0];unfold Stp.pump2;rw [if_neg]
      rintro ⟨_,h⟩
      rw [beq_eq_false_iff_ne,lo] at hse
      exact hse h
     rcases (Bool.eq_false_or_eq_true y.c.tm.on).symm with ho|ho
     ·cases hp:decide (0 < ah y.c.nx y.c.una)
      ·cases hq:decide (ah y.c.nx y.c.una < ((y.c.out.map bR).length:Int))
       ·have hz:x.pump=y:=by
         rw [hx];unfold Stp.pump3;rw [if_neg]
         rw [decide_eq_false_iff_not] at hp hq
         rw [lo] at hq
         rintro ⟨_,h|h⟩
         ·exact hp h
         ·exact hq h
        rw [hz]
        ((conv=>whnf);(repeat' ((first|refine gT ?_|((with_reducible refine ai ?_ ?_);focus (simp [lo];done))|((with_reducible refine aj ?_ ?_);focus (simp [lo];done))|(with_reducible refine ab (fun _=>?_) (fun _=>?_))|(refine qCall.sent rfl ?_)|((with_reducible refine qcp (an _ _) ?_);refine pT ?_)|((with_reducible refine qcp (aF _) ?_);refine pT ?_))<;>(conv=>whnf))))
        (refine qcv hB [(1,1)] [(0,0),(2,2),(3,3),(4,4),(5,5),(8,8),(9,9)] [] ?_;repeat' (with_reducible first|exact trivial|refine And.intro ?_ ?_))
        all_goals (try exact aN)
       ·have hz:x.pump = { y with c := { (y).c with tm:=ba 3 } }:=by
         rw [hx];unfold Stp.pump3;rw [if_pos]
         rw [decide_eq_true_eq,lo] at hq
         exact ⟨ho,.inr hq⟩
        rw [hz]
        ((conv=>whnf);(repeat' ((first|refine gT ?_|((with_reducible refine ai ?_ ?_);focus (simp [lo];done))|((with_reducible refine aj ?_ ?_);focus (simp [lo];done))|(with_reducible refine ab (fun _=>?_) (fun _=>?_))|(refine qCall.sent rfl ?_)|((with_reducible refine qcp (an _ _) ?_);refine pT ?_)|((with_reducible refine qcp (aF _) ?_);refine pT ?_))<;>(conv=>whnf))))
        (refine qcv hB [(1,1)] [(0,0),(2,2),(3,3),(4,4),(5,5),(8,8),(9,9)] [] ?_;repeat' (with_reducible first|exact trivial|refine And.intro ?_ ?_))
        all_goals (try exact aN)
      ·have hz:x.pump = { y with c := { (y).c with tm:=ba 3 } }:=by
        rw [hx];unfold Stp.pump3;rw [if_pos]
        rw [decide_eq_true_eq] at hp
        exact ⟨ho,.inl hp⟩
       rw [hz]
       ((conv=>whnf);(repeat' ((first|refine gT ?_|((with_reducible refine ai ?_ ?_);focus (simp [lo];done))|((with_reducible refine aj ?_ ?_);focus (simp [lo];done))|(with_reducible refine ab (fun _=>?_) (fun _=>?_))|(refine qCall.sent rfl ?_)|((with_reducible refine qcp (an _ _) ?_);refine pT ?_)|((with_reducible refine qcp (aF _) ?_);refine pT ?_))<;>(conv=>whnf))))
       (refine qcv hB [(1,1)] [(0,0),(2,2),(3,3),(4,4),(5,5),(8,8),(9,9)] [] ?_;repeat' (with_reducible first|exact trivial|refine And.intro ?_ ?_))
       all_goals (try exact aN)
     ·have hz:x.pump=y:=by
       rw [hx];unfold Stp.pump3;rw [if_neg]
       rintro ⟨h,_⟩
       exact absurd (ho.symm.trans h) (by simp)
      rw [hz]
      ((conv=>whnf);(repeat' ((first|refine gT ?_|((with_reducible refine ai ?_ ?_);focus (simp [lo];done))|((with_reducible refine aj ?_ ?_);focus (simp [lo];done))|(with_reducible refine ab (fun _=>?_) (fun _=>?_))|(refine qCall.sent rfl ?_)|((with_reducible refine qcp (an _ _) ?_);refine pT ?_)|((with_reducible refine qcp (aF _) ?_);refine pT ?_))<;>(conv=>whnf))))
      (refine qcv hB [(1,1)] [(0,0),(2,2),(3,3),(4,4),(5,5),(8,8),(9,9)] [] ?_;repeat' (with_reducible first|exact trivial|refine And.intro ?_ ?_))
      all_goals (try exact aN)
    ·have hse2:y.c.closing=true∧y.c.sent=y.c.len:=⟨hcl,by rw [beq_iff_eq,lo] at hse;exact hse⟩
     have cS:=em false y y.c.nx 17 [] (by simp) (by have:=hse2.2;unfold Cn.len at *; omega)
     cases hst:(y.c.st == 2)
     ·have hx:x.pump=(({ c := { y.c with nx:=wadd y.c.nx 1,st:=7 }, out:=y.out ++ [⟨y.c.port,y.c.pp,y.c.nx,y.c.inx,17,2048,[]⟩],told:=y.told } : Stp)).pump3:=by
       rw [hx0];unfold Stp.pump2;rw [if_pos hse2,if_neg (by simpa using hst)]
      rcases (Bool.eq_false_or_eq_true y.c.tm.on).symm with ho|ho
      ·cases hp:decide (0 < ah (wadd y.c.nx 1) y.c.una)
       ·cases hq:decide (ah (wadd y.c.nx 1) y.c.una < ((y.c.out.map bR).length:Int))
        ·have hz:x.pump=({ c := { y.c with nx:=wadd y.c.nx 1,st:=7 }, out:=y.out ++ [⟨y.c.port,y.c.pp,y.c.nx,y.c.inx,17,2048,[]⟩],told:=y.told } : Stp):=by
          rw [hx];unfold Stp.pump3;rw [if_neg]
          rw [decide_eq_false_iff_not] at hp hq
          rw [lo] at hq
          rintro ⟨_,h|h⟩
          ·exact hp h
          ·exact hq h
         rw [hz]
         ((conv=>whnf);(repeat' ((first|refine gT ?_|((with_reducible refine ai ?_ ?_);focus (simp [lo];done))|((with_reducible refine aj ?_ ?_);focus (simp [lo];done))|(with_reducible refine ab (fun _=>?_) (fun _=>?_))|(refine qCall.sent rfl ?_)|((with_reducible refine qcp (an _ _) ?_);refine pT ?_)|((with_reducible refine qcp (aF _) ?_);refine pT ?_))<;>(conv=>whnf))))
         ((with_reducible refine qco (cS) [(1,1)] [(0,0),(2,2),(3,3),(4,4),(5,5),(6,8),(7,9)] [] [(8,10),(9,11)] [(1,spO (spY false 10 11 y (y.out ++ [⟨y.c.port,y.c.pp,y.c.nx,y.c.inx,17,2048,[]⟩]))),(8,.dead),(9,.dead),(10,.uniq),(11,.uniq)] (.tup []) ?_);refine sT ?_)
         ((conv=>whnf);(repeat' ((first|refine gT ?_|((with_reducible refine ai ?_ ?_);focus (simp [lo];done))|((with_reducible refine aj ?_ ?_);focus (simp [lo];done))|(with_reducible refine ab (fun _=>?_) (fun _=>?_))|(refine qCall.sent rfl ?_)|((with_reducible refine qcp (an _ _) ?_);refine pT ?_)|((with_reducible refine qcp (aF _) ?_);refine pT ?_))<;>(conv=>whnf))))
         (refine qcv hB [(1,1)] [(0,0),(2,2),(3,3),(4,4),(5,5),(10,8),(11,9)] [] ?_;repeat' (with_reducible first|exact trivial|refine And.intro ?_ ?_))
         all_goals (try exact aN)
        ·have hz:x.pump = { ({ c := { y.c with nx:=wadd y.c.nx 1,st:=7 }, out:=y.out ++ [⟨y.c.port,y.c.pp,y.c.nx,y.c.inx,17,2048,[]⟩],told:=y.told } : Stp) with c := { (({ c := { y.c with nx:=wadd y.c.nx 1,st:=7 }, out:=y.out ++ [⟨y.c.port,y.c.pp,y.c.nx,y.c.inx,17,2048,[]⟩],told:=y.told } : Stp)).c with tm:=ba 3 } }:=by
          rw [hx];unfold Stp.pump3;rw [if_pos]
          rw [decide_eq_true_eq,lo] at hq
          exact ⟨ho,.inr hq⟩
         rw [hz]
         ((conv=>whnf);(repeat' ((first|refine gT ?_|((with_reducible refine ai ?_ ?_);focus (simp [lo];done))|((with_reducible refine aj ?_ ?_);focus (simp [lo];done))|(with_reducible refine ab (fun _=>?_) (fun _=>?_))|(refine qCall.sent rfl ?_)|((with_reducible refine qcp (an _ _) ?_);refine pT ?_)|((with_reducible refine qcp (aF _) ?_);refine pT ?_))<;>(conv=>whnf))))
         ((with_reducible refine qco (cS) [(1,1)] [(0,0),(2,2),(3,3),(4,4),(5,5),(6,8),(7,9)] [] [(8,10),(9,11)] [(1,spO (spY false 10 11 y (y.out ++ [⟨y.c.port,y.c.pp,y.c.nx,y.c.inx,17,2048,[]⟩]))),(8,.dead),(9,.dead),(10,.uniq),(11,.uniq)] (.tup []) ?_);refine sT ?_)
         ((conv=>whnf);(repeat' ((first|refine gT ?_|((with_reducible refine ai ?_ ?_);focus (simp [lo];done))|((with_reducible refine aj ?_ ?_);focus (simp [lo];done))|(with_reducible refine ab (fun _=>?_) (fun _=>?_))|(refine qCall.sent rfl ?_)|((with_reducible refine qcp (an _ _) ?_);refine pT ?_)|((with_reducible refine qcp (aF _) ?_);refine pT ?_))<;>(conv=>whnf))))
         (refine qcv hB [(1,1)] [(0,0),(2,2),(3,3),(4,4),(5,5),(10,8),(11,9)] [] ?_;repeat' (with_reducible first|exact trivial|refine And.intro ?_ ?_))
         all_goals (try exact aN)
       ·have hz:x.pump = { ({ c := { y.c with nx:=wadd y.c.nx 1,st:=7 }, out:=y.out ++ [⟨y.c.port,y.c.pp,y.c.nx,y.c.inx,17,2048,[]⟩],told:=y.told } : Stp) with c := { (({ c := { y.c with nx:=wadd y.c.nx 1,st:=7 }, out:=y.out ++ [⟨y.c.port,y.c.pp,y.c.nx,y.c.inx,17,2048,[]⟩],told:=y.told } : Stp)).c with tm:=ba 3 } }:=by
         rw [hx];unfold Stp.pump3;rw [if_pos]
         rw [decide_eq_true_eq] at hp
         exact ⟨ho,.inl hp⟩
        rw [hz]
        ((conv=>whnf);(repeat' ((first|refine gT ?_|((with_reducible refine ai ?_ ?_);focus (simp [lo];done))|((with_reducible refine aj ?_ ?_);focus (simp [lo];done))|(with_reducible refine ab (fun _=>?_) (fun _=>?_))|(refine qCall.sent rfl ?_)|((with_reducible refine qcp (an _ _) ?_);refine pT ?_)|((with_reducible refine qcp (aF _) ?_);refine pT ?_))<;>(conv=>whnf))))
        ((with_reducible refine qco (cS) [(1,1)] [(0,0),(2,2),(3,3),(4,4),(5,5),(6,8),(7,9)] [] [(8,10),(9,11)] [(1,spO (spY false 10 11 y (y.out ++ [⟨y.c.port,y.c.pp,y.c.nx,y.c.inx,17,2048,[]⟩]))),(8,.dead),(9,.dead),(10,.uniq),(11,.uniq)] (.tup []) ?_);refine sT ?_)
        ((conv=>whnf);(repeat' ((first|refine gT ?_|((with_reducible refine ai ?_ ?_);focus (simp [lo];done))|((with_reducible refine aj ?_ ?_);focus (simp [lo];done))|(with_reducible refine ab (fun _=>?_) (fun _=>?_))|(refine qCall.sent rfl ?_)|((with_reducible refine qcp (an _ _) ?_);refine pT ?_)|((with_reducible refine qcp (aF _) ?_);refine pT ?_))<;>(conv=>whnf))))
        (refine qcv hB [(1,1)] [(0,0),(2,2),(3,3),(4,4),(5,5),(10,8),(11,9)] [] ?_;repeat' (with_reducible first|exact trivial|refine And.intro ?_ ?_))
        all_goals (try exact aN)
      ·have hz:x.pump=({ c := { y.c with nx:=wadd y.c.nx 1,st:=7 }, out:=y.out ++ [⟨y.c.port,y.c.pp,y.c.nx,y.c.inx,17,2048,[]⟩],told:=y.told } : Stp):=by
        rw [hx];unfold Stp.pump3;rw [if_neg]
        rintro ⟨h,_⟩
        exact absurd (ho.symm.trans h) (by simp)
       rw [hz]
       ((conv=>whnf);(repeat' ((first|refine gT ?_|((with_reducible refine ai ?_ ?_);focus (simp [lo];done))|((with_reducible refine aj ?_ ?_);focus (simp [lo];done))|(with_reducible refine ab (fun _=>?_) (fun _=>?_))|(refine qCall.sent rfl ?_)|((with_reducible refine qcp (an _ _) ?_);refine pT ?_)|((with_reducible refine qcp (aF _) ?_);refine pT ?_))<;>(conv=>whnf))))
       ((with_reducible refine qco (cS) [(1,1)] [(0,0),(2,2),(3,3),(4,4),(5,5),(6,8),(7,9)] [] [(8,10),(9,11)] [(1,spO (spY false 10 11 y (y.out ++ [⟨y.c.port,y.c.pp,y.c.nx,y.c.inx,17,2048,[]⟩]))),(8,.dead),(9,.dead),(10,.uniq),(11,.uniq)] (.tup []) ?_);refine sT ?_)
       ((conv=>whnf);(repeat' ((first|refine gT ?_|((with_reducible refine ai ?_ ?_);focus (simp [lo];done))|((with_reducible refine aj ?_ ?_);focus (simp [lo];done))|(with_reducible refine ab (fun _=>?_) (fun _=>?_))|(refine qCall.sent rfl ?_)|((with_reducible refine qcp (an _ _) ?_);refine pT ?_)|((with_reducible refine qcp (aF _) ?_);refine pT ?_))<;>(conv=>whnf))))
       (refine qcv hB [(1,1)] [(0,0),(2,2),(3,3),(4,4),(5,5),(10,8),(11,9)] [] ?_;repeat' (with_reducible first|exact trivial|refine And.intro ?_ ?_))
       all_goals (try exact aN)
     ·have hx:x.pump=(({ c := { y.c with nx:=wadd y.c.nx 1,st:=3 }, out:=y.out ++ [⟨y.c.port,y.c.pp,y.c.nx,y.c.inx,17,2048,[]⟩],told:=y.told } : Stp)).pump3:=by
       rw [hx0];unfold Stp.pump2;rw [if_pos hse2,if_pos (by simpa using hst)]
      rcases (Bool.eq_false_or_eq_true y.c.tm.on).symm with ho|ho
      ·cases hp:decide (0 < ah (wadd y.c.nx 1) y.c.una)
       ·cases hq:decide (ah (wadd y.c.nx 1) y.c.una < ((y.c.out.map bR).length:Int))
        ·have hz:x.pump=({ c := { y.c with nx:=wadd y.c.nx 1,st:=3 }, out:=y.out ++ [⟨y.c.port,y.c.pp,y.c.nx,y.c.inx,17,2048,[]⟩],told:=y.told } : Stp):=by
          rw [hx];unfold Stp.pump3;rw [if_neg]
          rw [decide_eq_false_iff_not] at hp hq
          rw [lo] at hq
          rintro ⟨_,h|h⟩
          ·exact hp h
          ·exact hq h
         rw [hz]
         ((conv=>whnf);(repeat' ((first|refine gT ?_|((with_reducible refine ai ?_ ?_);focus (simp [lo];done))|((with_reducible refine aj ?_ ?_);focus (simp [lo];done))|(with_reducible refine ab (fun _=>?_) (fun _=>?_))|(refine qCall.sent rfl ?_)|((with_reducible refine qcp (an _ _) ?_);refine pT ?_)|((with_reducible refine qcp (aF _) ?_);refine pT ?_))<;>(conv=>whnf))))
         ((with_reducible refine qco (cS) [(1,1)] [(0,0),(2,2),(3,3),(4,4),(5,5),(6,8),(7,9)] [] [(8,10),(9,11)] [(1,spO (spY false 10 11 y (y.out ++ [⟨y.c.port,y.c.pp,y.c.nx,y.c.inx,17,2048,[]⟩]))),(8,.dead),(9,.dead),(10,.uniq),(11,.uniq)] (.tup []) ?_);refine sT ?_)
         ((conv=>whnf);(repeat' ((first|refine gT ?_|((with_reducible refine ai ?_ ?_);focus (simp [lo];done))|((with_reducible refine aj ?_ ?_);focus (simp [lo];done))|(with_reducible refine ab (fun _=>?_) (fun _=>?_))|(refine qCall.sent rfl ?_)|((with_reducible refine qcp (an _ _) ?_);refine pT ?_)|((with_reducible refine qcp (aF _) ?_);refine pT ?_))<;>(conv=>whnf))))
         (refine qcv hB [(1,1)] [(0,0),(2,2),(3,3),(4,4),(5,5),(10,8),(11,9)] [] ?_;repeat' (with_reducible first|exact trivial|refine And.intro ?_ ?_))
         all_goals (try exact aN)
        ·have hz:x.pump = { ({ c := { y.c with nx:=wadd y.c.nx 1,st:=3 }, out:=y.out ++ [⟨y.c.port,y.c.pp,y.c.nx,y.c.inx,17,2048,[]⟩],told:=y.told } : Stp) with c := { (({ c := { y.c with nx:=wadd y.c.nx 1,st:=3 }, out:=y.out ++ [⟨y.c.port,y.c.pp,y.c.nx,y.c.inx,17,2048,[]⟩],told:=y.told } : Stp)).c with tm:=ba 3 } }:=by
          rw [hx];unfold Stp.pump3;rw [if_pos]
          rw [decide_eq_true_eq,lo] at hq
          exact ⟨ho,.inr hq⟩
         rw [hz]
         ((conv=>whnf);(repeat' ((first|refine gT ?_|((with_reducible refine ai ?_ ?_);focus (simp [lo];done))|((with_reducible refine aj ?_ ?_);focus (simp [lo];done))|(with_reducible refine ab (fun _=>?_) (fun _=>?_))|(refine qCall.sent rfl ?_)|((with_reducible refine qcp (an _ _) ?_);refine pT ?_)|((with_reducible refine qcp (aF _) ?_);refine pT ?_))<;>(conv=>whnf))))
         ((with_reducible refine qco (cS) [(1,1)] [(0,0),(2,2),(3,3),(4,4),(5,5),(6,8),(7,9)] [] [(8,10),(9,11)] [(1,spO (spY false 10 11 y (y.out ++ [⟨y.c.port,y.c.pp,y.c.nx,y.c.inx,17,2048,[]⟩]))),(8,.dead),(9,.dead),(10,.uniq),(11,.uniq)] (.tup []) ?_);refine sT ?_)
         ((conv=>whnf);(repeat' ((first|refine gT ?_|((with_reducible refine ai ?_ ?_);focus (simp [lo];done))|((with_reducible refine aj ?_ ?_);focus (simp [lo];done))|(with_reducible refine ab (fun _=>?_) (fun _=>?_))|(refine qCall.sent rfl ?_)|((with_reducible refine qcp (an _ _) ?_);refine pT ?_)|((with_reducible refine qcp (aF _) ?_);refine pT ?_))<;>(conv=>whnf))))
         (refine qcv hB [(1,1)] [(0,0),(2,2),(3,3),(4,4),(5,5),(10,8),(11,9)] [] ?_;repeat' (with_reducible first|exact trivial|refine And.intro ?_ ?_))
         all_goals (try exact aN)
       ·have hz:x.pump = { ({ c := { y.c with nx:=wadd y.c.nx 1,st:=3 }, out:=y.out ++ [⟨y.c.port,y.c.pp,y.c.nx,y.c.inx,17,2048,[]⟩],told:=y.told } : Stp) with c := { (({ c := { y.c with nx:=wadd y.c.nx 1,st:=3 }, out:=y.out ++ [⟨y.c.port,y.c.pp,y.c.nx,y.c.inx,17,2048,[]⟩],told:=y.told } : Stp)).c with tm:=ba 3 } }:=by
         rw [hx];unfold Stp.pump3;rw [if_pos]
         rw [decide_eq_true_eq] at hp
         exact ⟨ho,.inl hp⟩
        rw [hz]
        ((conv=>whnf);(repeat' ((first|refine gT ?_|((with_reducible refine ai ?_ ?_);focus (simp [lo];done))|((with_reducible refine aj ?_ ?_);focus (simp [lo];done))|(with_reducible refine ab (fun _=>?_) (fun _=>?_))|(refine qCall.sent rfl ?_)|((with_reducible refine qcp (an _ _) ?_);refine pT ?_)|((with_reducible refine qcp (aF _) ?_);refine pT ?_))<;>(conv=>whnf))))
        ((with_reducible refine qco (cS) [(1,1)] [(0,0),(2,2),(3,3),(4,4),(5,5),(6,8),(7,9)] [] [(8,10),(9,11)] [(1,spO (spY false 10 11 y (y.out ++ [⟨y.c.port,y.c.pp,y.c.nx,y.c.inx,17,2048,[]⟩]))),(8,.dead),(9,.dead),(10,.uniq),(11,.uniq)] (.tup []) ?_);refine sT ?_)
        ((conv=>whnf);(repeat' ((first|refine gT ?_|((with_reducible refine ai ?_ ?_);focus (simp [lo];done))|((with_reducible refine aj ?_ ?_);focus (simp [lo];done))|(with_reducible refine ab (fun _=>?_) (fun _=>?_))|(refine qCall.sent rfl ?_)|((with_reducible refine qcp (an _ _) ?_);refine pT ?_)|((with_reducible refine qcp (aF _) ?_);refine pT ?_))<;>(conv=>whnf))))
        (refine qcv hB [(1,1)] [(0,0),(2,2),(3,3),(4,4),(5,5),(10,8),(11,9)] [] ?_;repeat' (with_reducible first|exact trivial|refine And.intro ?_ ?_))
        all_goals (try exact aN)
      ·have hz:x.pump=({ c := { y.c with nx:=wadd y.c.nx 1,st:=3 }, out:=y.out ++ [⟨y.c.port,y.c.pp,y.c.nx,y.c.inx,17,2048,[]⟩],told:=y.told } : Stp):=by
        rw [hx];unfold Stp.pump3;rw [if_neg]
        rintro ⟨h,_⟩
        exact absurd (ho.symm.trans h) (by simp)
       rw [hz]
       ((conv=>whnf);(repeat' ((first|refine gT ?_|((with_reducible refine ai ?_ ?_);focus (simp [lo];done))|((with_reducible refine aj ?_ ?_);focus (simp [lo];done))|(with_reducible refine ab (fun _=>?_) (fun _=>?_))|(refine qCall.sent rfl ?_)|((with_reducible refine qcp (an _ _) ?_);refine pT ?_)|((with_reducible refine qcp (aF _) ?_);refine pT ?_))<;>(conv=>whnf))))
       ((with_reducible refine qco (cS) [(1,1)] [(0,0),(2,2),(3,3),(4,4),(5,5),(6,8),(7,9)] [] [(8,10),(9,11)] [(1,spO (spY false 10 11 y (y.out ++ [⟨y.c.port,y.c.pp,y.c.nx,y.c.inx,17,2048,[]⟩]))),(8,.dead),(9,.dead),(10,.uniq),(11,.uniq)] (.tup []) ?_);refine sT ?_)
       ((conv=>whnf);(repeat' ((first|refine gT ?_|((with_reducible refine ai ?_ ?_);focus (simp [lo];done))|((with_reducible refine aj ?_ ?_);focus (simp [lo];done))|(with_reducible refine ab (fun _=>?_) (fun _=>?_))|(refine qCall.sent rfl ?_)|((with_reducible refine qcp (an _ _) ?_);refine pT ?_)|((with_reducible refine qcp (aF _) ?_);refine pT ?_))<;>(conv=>whnf))))
       (refine qcv hB [(1,1)] [(0,0),(2,2),(3,3),(4,4),(5,5),(10,8),(11,9)] [] ?_;repeat' (with_reducible first|exact trivial|refine And.intro ?_ ?_))
       all_goals (try exact aN)
theorem mB {p:Prop} (h:p:=by first|((first|rfl|(refine RowsRen.one ?_;(repeat (refine Cells.cons ?_ ?_;focus (first|exact .val _|exact Ren.gg rfl _|exact Ren.ll rfl _|exact Ren.g2 rfl _|exact Ren.oo rfl _ _|exact Ren.vnil _ _|exact Ren.vgnil _ _|exact Ren.sgs rfl rfl _|exact Ren.sgs1 rfl rfl rfl rfl|exact Ren.pgl rfl rfl _|fail)));exact Cells.nil)|exact bq rfl _|exact aI rfl _|exact aH _);done)|fail):p:=h
theorem gI {p:Prop} (h:p:=by first|((first|rfl|(refine RowsRen.one ?_;(repeat (refine Cells.cons ?_ ?_;focus (first|exact .val _|exact Ren.gg rfl _|exact Ren.ll rfl _|exact Ren.g2 rfl _|exact Ren.oo rfl _ _|exact Ren.vnil _ _|exact Ren.vgnil _ _|exact Ren.sgs rfl rfl _|exact Ren.sgsN rfl rfl rfl rfl|exact Ren.sgs1 rfl rfl rfl rfl|exact Ren.pgl rfl rfl _|fail)));exact Cells.nil)|exact bq rfl _|exact aI rfl _|exact aH _);done)|fail):p:=h
theorem pc (s n v:Int) (b:Bool) (hs:0≤s∧s≤4294967295) (hn:0≤n∧n≤65536) (hv:0≤v∧v≤4294967295) (hb:decide (woff v s < n)=b):ACallL Tryz.prog 144 [.val (.complex .f64 (fI s) (fI n)),.val (.int .i64 v)] [.perm] (.tup [.val (.bool b),.val (.int .i64 0)]) [.perm] :=
 ACallL.of_vals (us:=[.complex .f64 (fI s) (fI n),.int .i64 v]) (fun a w=>Tryz.call144 a w) (uT s n v b hs hn hv hb) fun _ _ _=>R.tup2 _ _
theorem kv (m:Sg) (hm:m.data.length≤100000000):ACallL Tryz.prog 134 [.agg (sgR 0 m)] [.perm] (.val (.int .i64 m.len)) [.perm]:=by
 have px:=al m.data
 have lo:(m.data.map bR).length=m.data.length:=by simp
 have w1:=IntWalk.i64_in ((m.data.length:Int) + 1) (by omega)
 have w2:=IntWalk.i64_in ((m.data.length:Int) + 1 + 1) (by omega)
 unfold Sg.len flN
 dsimp only [sgR,sgL]
 refine ACallL.of_ev af Tryz.func134 rfl (fun a w=>Tryz.call134 a w) (congrArg Array.toList Tryz.results134) Tryz.ntmps134 fun B hB=>?_
 ((conv=>whnf);(repeat' ((first|refine gT ?_|(with_reducible refine ab (fun _=>?_) (fun _=>?_)))<;>(conv=>whnf))))
 all_goals (refine qcv hB [] [(0,0)] [] ?_;repeat' (with_reducible first|exact trivial|refine And.intro ?_ ?_))
 all_goals (simp only [bne,Bool.not_eq_true', Bool.not_eq_false'] at *)
 all_goals (simp only [*, cond_true,cond_false,Bool.true_or,Bool.or_true,Bool.false_or,Bool.or_false,Bool.true_and,Bool.false_and,Bool.and_true,Bool.and_false,Bool.not_true,Bool.not_false])
 all_goals simp only [Int.add_zero]
theorem gz (m:Sg) (hm:m.data.length≤100000000):ACallL Tryz.prog 105 [.agg (sgR 0 m)] [.perm] (.val (.int .i64 m.len)) [.perm]:=by
 have px:=al m.data
 have lo:(m.data.map bR).length=m.data.length:=by simp
 have w1:=IntWalk.i64_in ((m.data.length:Int) + 1) (by omega)
 have w2:=IntWalk.i64_in ((m.data.length:Int) + 1 + 1) (by omega)
 unfold Sg.len flN
 dsimp only [sgR,sgL]
 refine ACallL.of_ev af Tryz.func105 rfl (fun a w=>Tryz.call105 a w) (congrArg Array.toList Tryz.results105) Tryz.ntmps105 fun B hB=>?_
 ((conv=>whnf);(repeat' ((first|refine gT ?_|(with_reducible refine ab (fun _=>?_) (fun _=>?_)))<;>(conv=>whnf))))
 all_goals (refine qcv hB [] [(0,0)] [] ?_;repeat' (with_reducible first|exact trivial|refine And.intro ?_ ?_))
 all_goals (simp only [bne,Bool.not_eq_true', Bool.not_eq_false'] at *)
 all_goals (simp only [*, cond_true,cond_false,Bool.true_or,Bool.or_true,Bool.false_or,Bool.or_false,Bool.true_and,Bool.false_and,Bool.and_true,Bool.and_false,Bool.not_true,Bool.not_false])
 all_goals simp only [Int.add_zero]
theorem jE {m:Sg} (h:sgB m=true):(0≤m.sp∧m.sp≤65535)∧(0≤m.dp∧m.dp≤65535)∧(0≤m.seq∧m.seq≤4294967295)∧(0≤m.ack∧m.ack≤4294967295)∧(0≤m.fl∧m.fl≤63)∧(0≤m.win∧m.win≤65535)∧m.data.length≤1460:=by
 simpa only [sgB,am,Bool.and_eq_true,decide_eq_true_eq] using h
theorem Sg.len_bd {m:Sg} (h:m.data.length≤1460):0≤m.len∧m.len≤1462:=by
 unfold Sg.len
 cases flN m.fl 2<;>cases flN m.fl 1<;>simp<;>omega
theorem t8 (x:Stp) (m:Sg) (hi:0≤x.c.inx∧x.c.inx≤4294967295) (hm:sgB m=true) :
 ACallL Tryz.prog 135 [.ptr 1 0 0,.agg (sgR 0 m)] [.perm,spO (spR false 6 7 x),.perm,.perm,.perm,.perm,.perm,.perm]
  (.val (.bool (x.c.accepts m))) [.perm,spO (spR false 6 7 x),.perm,.perm,.perm,.perm,.perm,.perm]:=by
 obtain ⟨_,_,hseq,_,_,_,hd⟩:=jE hm
 have hl:=Sg.len_bd hd
 have w:=IntWalk.i64_in (m.len - 1) (by omega)
 have wa:=dK m.seq (m.len - 1)
 have px:=al m.data
 have cL:=kv m (by omega)
 have c1:=pc x.c.inx 2048 m.seq _ hi (by decide) hseq rfl
 have c2:=pc x.c.inx 2048 (wadd m.seq (m.len - 1)) _ hi (by decide) (by omega) rfl
 rw [← w] at c2
 have cO:=iK x.c.inx 2048 hi (by decide)
 unfold Cn.accepts
 rw [← w]
 dsimp only [spR,spL,oL,sgR,sgL] at cL ⊢
 refine ACallL.of_ev af Tryz.func135 rfl (fun a w=>Tryz.call135 a w) (congrArg Array.toList Tryz.results135) Tryz.ntmps135 fun B hB=>?_
 ((conv=>whnf);(repeat' ((first|refine gT ?_|(with_reducible refine ab (fun _=>?_) (fun _=>?_))|((with_reducible refine qcp (cO) ?_);refine pT ?_)|((with_reducible refine qcp (cL) ?_);refine pT ?_)|((with_reducible refine qcp (c1) ?_);refine pT ?_)|((with_reducible refine qcp (c2) ?_);refine pT ?_)|((with_reducible refine qcp (an _ _) ?_);refine pT ?_))<;>(conv=>whnf))))
 all_goals
  (refine qcv hB [(1,1)] [(0,0),(2,2),(3,3),(4,4),(5,5),(6,6),(7,7)] [] ?_;repeat' (with_reducible first|exact trivial|refine And.intro ?_ ?_))
  all_goals (try exact mB)
 all_goals (simp only [*, cond_true,cond_false,Bool.true_or,Bool.or_true,Bool.false_or,Bool.or_false,Bool.true_and,Bool.false_and,Bool.and_true,Bool.and_false,Bool.not_true,Bool.not_false])
theorem Ren.sgsN {L I F:Prs} {h:Hp} {r r' d d' : Nat} {row:List AV} {m:Sg} {l:List Sg} (h0:I.has r r' = true) (h1:I.has d d' = true) (hd:m.data=[]) (hr:row=sgL (.val (.slice none 0 0)) m):Ren (qOf L I F) h (.glist r 7 (l.map (sgG d) ++ [row])) (.glist r' 7 ((l ++ [m]).map (sgG d'))):=by
 subst hr
 have e:RowsRen (qOf L I F) h [sgL (.val (.slice none 0 0)) m] ([m].map (sgG d')):=by
  refine RowsRen.one (.cons (.val _) (.cons (.val _) (.cons (.val _) (.cons (.val _) (.cons (.val _) (.cons (.val _) (.cons ?_ .nil)))))))
  rw [hd]
  exact .vgnil _ _
 obtain ⟨a,b,c⟩:=(bq (L:=L) (I:=I) (F:=F) (h:=h) h1 l).app e
 rw [← List.map_append] at a b c
 exact .glist _ _ _ _ _ ((Prs.has_iff I r r').1 h0) a b c
theorem vC (x:Stp) (m:Sg) (hs:x.out.length≤1000000) (ho:x.c.out.length≤8192) (hm:m.data.length≤1460) :
 ACallL Tryz.prog 137 [.ptr 1 0 0,.agg (sgR 0 m)] [.perm,spO (spR false 6 7 x),.perm,.perm,.perm,.perm,.uniq,.uniq]
  (.val (.bool (x.ack m).2)) [.perm,spO (spR false 8 9 (x.ack m).1),.perm,.perm,.perm,.perm,.dead,.dead,.uniq,.uniq]:=by
 have px:=al m.data
 have lo:(x.c.out.map bR).length=x.c.out.length:=by simp
 have cS:=iP false x (by omega)
 have hw:=bY m.ack x.c.una
 have cC:=hY false ({ x with c:=x.c.ackC m } : Stp)
 unfold Stp.ack
 by_cases hd:ah m.ack x.c.una≤0
 ·have hd1:decide (ah m.ack x.c.una≤0)=true:=by simpa using hd
  dsimp only [spR,spL,oL,sgR,sgL] at cS ⊢
  refine ACallL.of_ev af Tryz.func137 rfl (fun a w=>Tryz.call137 a w) (congrArg Array.toList Tryz.results137) Tryz.ntmps137 fun B hB=>?_
  ((conv=>whnf);(repeat' ((first|refine gT ?_|(with_reducible refine ab (fun _=>?_) (fun _=>?_))|((with_reducible refine qcp (dg _ _) ?_);refine pT ?_)|(((with_reducible refine qco (cS) [(1,1)] [(0,0),(2,2),(3,3),(4,4),(5,5),(6,6),(7,7)] [] [(8,9),(9,10)] [(1,spO (spY false 9 10 x (x.out ++ [⟨x.c.port,x.c.pp,x.c.nx,x.c.inx,16,2048,[]⟩]))),(6,.dead),(7,.dead),(9,.uniq),(10,.uniq)] (.tup []) ?_);refine sT ?_))|(refine ak (apG (nb:=72) rfl rfl rfl rfl rfl rfl rfl rfl rfl rfl (by decide) rfl (by simp;omega)) ?_))<;>(conv=>whnf))))
  all_goals (try simp only [bne,Bool.not_eq_true', Bool.not_eq_false'] at *)
  all_goals (simp only [*, cond_true,cond_false,Bool.and_true,Bool.true_and,Bool.and_false,Bool.false_and])
  all_goals first|((refine qcv hB [(1,1)] [(0,0),(2,2),(3,3),(4,4),(5,5),(10,8),(7,9)] [] ?_;repeat' (with_reducible first|exact trivial|refine And.intro ?_ ?_)))|((refine qcv hB [(1,1)] [(0,0),(2,2),(3,3),(4,4),(5,5),(6,8),(7,9)] [] ?_;repeat' (with_reducible first|exact trivial|refine And.intro ?_ ?_)))|((refine qcv hB [(1,1)] [(0,0),(2,2),(3,3),(4,4),(5,5),(9,8),(10,9)] [] ?_;repeat' (with_reducible first|exact trivial|refine And.intro ?_ ?_)))
  all_goals (try exact gI)
 ·have hd1:decide (ah m.ack x.c.una≤0)=false:=by simpa using hd
  obtain ⟨ys,hys⟩ : ∃ ys,x.c.out.drop (min (ah m.ack x.c.una) x.c.out.length).toNat=ys:=⟨_,rfl⟩
  have hcb:0≤(some (min (ah m.ack x.c.una) ((x.c.out.map bR).length:Int))).getD 0∧(some (min (ah m.ack x.c.una) ((x.c.out.map bR).length:Int))).getD 0≤(none:Option Int).getD ((x.c.out.map bR).length:Int)∧(none:Option Int).getD ((x.c.out.map bR).length:Int)≤(none:Option Int).getD ((x.c.out.map bR).length:Int)∧(none:Option Int).getD ((x.c.out.map bR).length:Int)≤((x.c.out.map bR).length:Int)∧((none:Option Int)=none∨(none:Option Int)≠none):=by
   simp only [Option.getD_some,Option.getD_none]
   exact ⟨by omega,by omega,by omega,by omega,.inl trivial⟩
  have hsl:((x.c.out.map bR).drop ((some (min (ah m.ack x.c.una) ((x.c.out.map bR).length:Int))).getD 0).toNat).take ((none:Option Int).getD ((x.c.out.map bR).length:Int) - (some (min (ah m.ack x.c.una) ((x.c.out.map bR).length:Int))).getD 0).toNat=ys.map bR:=by
   simp only [Option.getD_some,Option.getD_none]
   rw [← hys,lo,List.map_drop]
   exact List.take_of_length_le (by simp;omega)
  have hac:x.c.ackC m = { x.c with win:=m.win,out:=ys,una:=m.ack,tm:=tm0 }:=by unfold Cn.ackC;rw [hys]
  rw [hac] at cC ⊢
  dsimp only [spR,spL,oL,sgR,sgL] at cS cC ⊢
  refine ACallL.of_ev af Tryz.func137 rfl (fun a w=>Tryz.call137 a w) (congrArg Array.toList Tryz.results137) Tryz.ntmps137 fun B hB=>?_
  ((conv=>whnf);(repeat' ((first|refine gT ?_|(with_reducible refine ab (fun _=>?_) (fun _=>?_))|((with_reducible refine qcp (dg _ _) ?_);refine pT ?_)|((with_reducible refine qcp (tA _) ?_);refine pT ?_)|((with_reducible refine qcp (aF _) ?_);refine pT ?_)|(refine qCall.sent rfl ?_)|(refine ak (slL' rfl rfl rfl rfl rfl rfl rfl rfl hcb hsl) ?_)|(((with_reducible refine qco (cS) [(1,1)] [(0,0),(2,2),(3,3),(4,4),(5,5),(6,6),(7,7)] [] [(8,9),(9,10)] [(1,spO (spY false 9 10 x (x.out ++ [⟨x.c.port,x.c.pp,x.c.nx,x.c.inx,16,2048,[]⟩]))),(6,.dead),(7,.dead),(9,.uniq),(10,.uniq)] (.tup []) ?_);refine sT ?_))|(((with_reducible refine qco (cC) [(1,1)] [(0,0),(2,2),(3,3),(4,4),(5,5),(6,6),(7,7)] [] [] [(1,spO (spL (bL 2 []) (.list 3 2 (([]:List Pt).map (prg 4))) (.glist 6 7 (x.out.map (sgG 7))) (gL 5 x.told) ({ x.c with win:=m.win,out:=ys,una:=m.ack,tm:=tm0 } : Cn).shut))] (.tup []) ?_);refine sT ?_))|(refine ak (apG (nb:=72) rfl rfl rfl rfl rfl rfl rfl rfl rfl rfl (by decide) rfl (by simp;omega)) ?_))<;>(conv=>whnf))))
  all_goals (try simp only [bne,Bool.not_eq_true', Bool.not_eq_false'] at *)
  all_goals (simp only [*, cond_true,cond_false,Bool.and_true,Bool.true_and,Bool.and_false,Bool.false_and])
  all_goals first|((refine qcv hB [(1,1)] [(0,0),(2,2),(3,3),(4,4),(5,5),(10,8),(7,9)] [] ?_;repeat' (with_reducible first|exact trivial|refine And.intro ?_ ?_)))|((refine qcv hB [(1,1)] [(0,0),(2,2),(3,3),(4,4),(5,5),(6,8),(7,9)] [] ?_;repeat' (with_reducible first|exact trivial|refine And.intro ?_ ?_)))|((refine qcv hB [(1,1)] [(0,0),(2,2),(3,3),(4,4),(5,5),(9,8),(10,9)] [] ?_;repeat' (with_reducible first|exact trivial|refine And.intro ?_ ?_)))
  all_goals (try exact gI)
theorem iJ {p:Prop} (h:p:=by first|((first|rfl|(refine RowsRen.one ?_;(repeat (refine Cells.cons ?_ ?_;focus (first|exact .val _|exact Ren.gg rfl _|exact Ren.ll rfl _|exact Ren.g2 rfl _|exact Ren.oo rfl _ _|exact Ren.vnil _ _|exact Ren.vgnil _ _|exact Ren.sgs rfl rfl _|exact Ren.sgs1 rfl rfl rfl rfl|exact Ren.pgl rfl rfl _|fail)));exact Cells.nil)|exact bq rfl _|exact aI rfl _|exact aH _);done)|fail):p:=h
theorem w8 (x:Stp) (m:Sg) (hb:mayB x.c.inx x.c.parts=true) (hm:sgB m=true) :
 ACallL Tryz.prog 138 [.ptr 1 0 0,.agg (sgR 0 m)] [.perm,spO (spN false 2 3 4 5 6 7 x),.perm,.uniq,.uniq,.uniq,.perm,.perm]
  (.tup []) [.perm,spO (spN false 2 8 9 10 6 7 (x.data m)),.perm,.dead,.dead,.dead,.perm,.perm,.uniq,.uniq,.uniq]:=by
 have px:=al m.data
 obtain ⟨_,_,hseq,_,_,_,hd⟩:=jE hm
 obtain ⟨hn,h8,hin⟩:=eT hb
 have hp:dq x.c.parts:=kC hb
 have cP:=xM x.c.inx m.seq x.c.parts m.data hn hseq (by omega) hp hin
 rw [uy hb] at cP
 have cH:=wS x
 unfold Stp.data
 by_cases hh:x.c.hears=true
 ·rw [hh] at cH
  rw [hh,cond_true]
  unfold Stp.dataIn Stp.dataFin flN
  obtain ⟨⟨n', ps', told⟩,hr⟩ : ∃ r,reaS x.c.inx x.c.parts m.seq m.data=r:=⟨_,rfl⟩
  rw [hr] at cP ⊢
  dsimp only [spN,spR,spL,oL,sgR,sgL] at cH ⊢
  refine ACallL.of_ev af Tryz.func138 rfl (fun a w=>Tryz.call138 a w) (congrArg Array.toList Tryz.results138) Tryz.ntmps138 fun B hB=>?_
  ((conv=>whnf);(repeat' ((first|refine gT ?_|(with_reducible refine ab (fun _=>?_) (fun _=>?_))|((with_reducible refine qcp (an _ _) ?_);refine pT ?_)|((with_reducible refine qcp (aF _) ?_);refine pT ?_)|(((with_reducible refine qco (cH) [(1,1)] [(0,0),(2,2),(3,3),(4,4),(5,5),(6,6),(7,7)] [] [] [(1,spO (spY false 6 7 x x.out))] (.val (.bool true)) ?_);refine sT ?_))|(((with_reducible refine qco (cP) [] [(0,0),(1,3),(2,4)] [] [(3,9),(4,10),(5,11)] [(3,.dead),(4,.dead),(9,.uniq),(10,.uniq),(11,.uniq)] (mI 9 10 11 (n', ps', told)) ?_);refine sT ?_)))<;>(conv=>whnf))))
  all_goals (try simp only [bne,Bool.not_eq_true', Bool.not_eq_false', List.length_map] at *)
  all_goals (try simp only [*, cond_true,cond_false,Bool.and_true,Bool.true_and,Bool.and_false,Bool.false_and])
  all_goals first|((refine qcv hB [(1,1)] [(0,0),(2,2),(9,8),(10,9),(11,10),(6,6),(7,7)] [] ?_;repeat' (with_reducible first|exact trivial|refine And.intro ?_ ?_)))|((refine qcv hB [(1,1)] [(0,0),(2,2),(3,8),(4,9),(5,10),(6,6),(7,7)] [] ?_;repeat' (with_reducible first|exact trivial|refine And.intro ?_ ?_)))
  all_goals (try exact iJ)
 ·have hh:x.c.hears=false:=by simpa using hh
  rw [hh] at cH
  rw [hh,cond_false]
  dsimp only [spN,spR,spL,oL,sgR,sgL] at cH ⊢
  refine ACallL.of_ev af Tryz.func138 rfl (fun a w=>Tryz.call138 a w) (congrArg Array.toList Tryz.results138) Tryz.ntmps138 fun B hB=>?_
  ((conv=>whnf);(repeat' ((first|refine gT ?_|(with_reducible refine ab (fun _=>?_) (fun _=>?_))|(((with_reducible refine qco (cH) [(1,1)] [(0,0),(2,2),(3,3),(4,4),(5,5),(6,6),(7,7)] [] [] [(1,spO (spY false 6 7 x x.out))] (.val (.bool false)) ?_);refine sT ?_)))<;>(conv=>whnf))))
  all_goals (try simp only [bne,Bool.not_eq_true', Bool.not_eq_false', List.length_map] at *)
  all_goals (try simp only [*, cond_true,cond_false,Bool.and_true,Bool.true_and,Bool.and_false,Bool.false_and])
  all_goals first|((refine qcv hB [(1,1)] [(0,0),(2,2),(9,8),(10,9),(11,10),(6,6),(7,7)] [] ?_;repeat' (with_reducible first|exact trivial|refine And.intro ?_ ?_)))|((refine qcv hB [(1,1)] [(0,0),(2,2),(3,8),(4,9),(5,10),(6,6),(7,7)] [] ?_;repeat' (with_reducible first|exact trivial|refine And.intro ?_ ?_)))
  all_goals (try exact iJ)
theorem CnI.tm_of {c:Cn} (h:CnI c) {t:Tm} (ht:tmB t=true) (h0:c.st≠0):CnI { c with tm:=t } :=
 ⟨⟨h.link,h.ip,h.pp,h.port,h.st,h.una,h.nx,h.win,h.len,h.may,ht⟩,⟨fun e=>absurd e h0,h.num.a,h.num.b,h.num.d,h.num.e⟩⟩
theorem t9 {x:Stp} (h:CnI x.c) (m:Sg) (h0:x.c.st≠0):CnI (x.dataIn m).c :=
 ⟨⟨h.link,h.ip,h.pp,h.port,h.st,h.una,h.nx,h.win,h.len,tY h.may m.seq m.data,h.tm⟩,⟨fun e=>absurd e h0,h.num.a,h.num.b,h.num.d,h.num.e⟩⟩
theorem sB {x:Stp} (h:CnI x.c) (m:Sg) (hh:x.c.hears=true):CnI (x.dataFin m).c:=by
 have hs:x.c.st=2∨x.c.st=3∨x.c.st=4:=by simpa [Cn.hears] using hh
 unfold Stp.dataFin
 cases flN m.fl 1 with
 | true=>exact h
 | false =>
   simp only [cond_false]
   cases (wadd m.seq m.data.length == x.c.inx) with
   | false=>exact h
   | true =>
     simp only [cond_true]
     cases h1:decide (0 < (x.c.parts.length:Int)) with
     | true=>exact h
     | false =>
       simp only [cond_false]
       have hp:x.c.parts=[]:=by rw [← List.length_eq_zero_iff];simp at h1;simp [h1]
       have hF:mayB (wadd x.c.inx 1) x.c.parts=true:=by rw [hp];exact nU
       cases h2:(x.c.st == 2) with
       | true =>
         refine ⟨⟨h.link,h.ip,h.pp,h.port,⟨by show (0:Int)≤5;decide,by show (5:Int)≤8;decide⟩,h.una,h.nx,h.win,h.len,hF,h.tm⟩,⟨fun e=>?_,fun e=>?_,fun e=>?_,fun e=>?_,fun _=>h.num.e (.inl (by simpa using h2))⟩⟩
         ·exact absurd e (by show ¬ (5:Int)=0;decide)
         ·exact absurd e (by show ¬ (5:Int)=1;decide)
         ·exact absurd e (by show ¬ ((5:Int)=4∨(5:Int)=8);decide)
         ·exact absurd e (by show ¬ ((5:Int)=3∨(5:Int)=6∨(5:Int)=7);decide)
       | false =>
         simp only [cond_false]
         cases h3:(x.c.st == 3) with
         | true =>
           refine ⟨⟨h.link,h.ip,h.pp,h.port,⟨by show (0:Int)≤6;decide,by show (6:Int)≤8;decide⟩,h.una,h.nx,h.win,h.len,hF,h.tm⟩,⟨fun e=>?_,fun e=>?_,fun e=>?_,fun _=>h.num.d (.inl (by simpa using h3)),fun e=>?_⟩⟩
           ·exact absurd e (by show ¬ (6:Int)=0;decide)
           ·exact absurd e (by show ¬ (6:Int)=1;decide)
           ·exact absurd e (by show ¬ ((6:Int)=4∨(6:Int)=8);decide)
           ·exact absurd e (by show ¬ ((6:Int)=2∨(6:Int)=5);decide)
         | false =>
           have h4:x.c.st=4:=by simp at h2 h3;omega
           refine ⟨⟨h.link,h.ip,h.pp,h.port,⟨by show (0:Int)≤8;decide,by show (8:Int)≤8;decide⟩,h.una,h.nx,h.win,h.len,hF,lB⟩,⟨fun e=>?_,fun e=>?_,fun _=>h.num.b (.inl h4),fun e=>?_,fun e=>?_⟩⟩
           ·exact absurd e (by show ¬ (8:Int)=0;decide)
           ·exact absurd e (by show ¬ (8:Int)=1;decide)
           ·exact absurd e (by show ¬ ((8:Int)=3∨(8:Int)=6∨(8:Int)=7);decide)
           ·exact absurd e (by show ¬ ((8:Int)=2∨(8:Int)=5);decide)
theorem jj {x:Stp} (h:CnI x.c) (m:Sg):CnI (x.data m).c:=by
 unfold Stp.data
 cases hh:x.c.hears with
 | false=>exact h
 | true=>exact sB (t9 h m (by intro e;simp [Cn.hears,e] at hh)) m hh
theorem od {x:Stp} (h:CnI x.c) (m:Sg):CnI (x.ackLen m).c:=by
 unfold Stp.ackLen
 cases decide (0 < m.len)<;>exact h
theorem iT : ∀ (k:Nat) {y:Stp}, PumpOk y.c→PumpOk (pumpGo k y).c∧(pumpGo k y).c = { y.c with nx:=(pumpGo k y).c.nx }
 | 0,y,h=>⟨h,rfl⟩
 | k + 1,y,h=>by
   rw [pumpGo]
   by_cases hn:y.c.pumpN≤0
   ·rw [if_pos hn];exact ⟨h,rfl⟩
   ·rw [if_neg hn]
    obtain ⟨h1,h2⟩:=iT k (eC h (by omega))
    exact ⟨h1,h2.trans rfl⟩
theorem nS {x:Stp} (h:CnI x.c) (ht:x.c.talks=true):CnI x.pump.c:=by
 obtain ⟨hp,he⟩:=iT x.c.out.length (h.pumpOk ht)
 have hst:x.c.st=2∨x.c.st=5:=by simpa [Cn.talks] using ht
 unfold Stp.pump
 obtain ⟨y,hy⟩ : ∃ y,pumpGo x.c.out.length x=y:=⟨_,rfl⟩
 rw [hy] at hp he ⊢
 have hI:CnI y.c:=by
  rw [he]
  refine ⟨⟨h.link,h.ip,h.pp,h.port,h.st,h.una,hp.nx,h.win,h.len,h.may,h.tm⟩,⟨fun e=>?_,fun e=>?_,fun e=>?_,fun e=>?_,fun _=>?_⟩⟩
  ·have e:x.c.st=0:=e;omega
  ·have e:x.c.st=1:=e;omega
  ·have e:x.c.st=4∨x.c.st=8:=e;omega
  ·have e:x.c.st=3∨x.c.st=6∨x.c.st=7:=e;omega
  ·rw [← he];exact ⟨hp.s0,hp.s1⟩
 have hys:y.c.st=2∨y.c.st=5:=by rw [he];exact hst
 have h2:CnI y.pump2.c∧y.pump2.c.st≠0:=by
  unfold Stp.pump2
  by_cases hc:y.c.closing=true∧y.c.sent=y.c.len
  ·rw [if_pos hc]
   have hb:=dK y.c.nx 1
   have hlen:=hp.len
   have hsn:ah (wadd y.c.nx 1) y.c.una=y.c.out.length + 1:=by
    have:=hc.2
    unfold Cn.sent Cn.len at this
    rw [iV (by omega) (by decide) (by omega),this]
   by_cases h2:y.c.st=2
   ·rw [if_pos h2]
    refine ⟨⟨⟨hI.link,hI.ip,hI.pp,hI.port,⟨by show (0:Int)≤3;decide,by show (3:Int)≤8;decide⟩,hI.una,by show 0≤wadd y.c.nx 1∧wadd y.c.nx 1≤4294967295;omega,hI.win,hI.len,hI.may,hI.tm⟩,⟨fun e=>?_,fun e=>?_,fun e=>?_,fun _=>⟨hc.1,hsn⟩,fun e=>?_⟩⟩,by show ¬ (3:Int)=0;decide⟩
    ·exact absurd e (by show ¬ (3:Int)=0;decide)
    ·exact absurd e (by show ¬ (3:Int)=1;decide)
    ·exact absurd e (by show ¬ ((3:Int)=4∨(3:Int)=8);decide)
    ·exact absurd e (by show ¬ ((3:Int)=2∨(3:Int)=5);decide)
   ·rw [if_neg h2]
    refine ⟨⟨⟨hI.link,hI.ip,hI.pp,hI.port,⟨by show (0:Int)≤7;decide,by show (7:Int)≤8;decide⟩,hI.una,by show 0≤wadd y.c.nx 1∧wadd y.c.nx 1≤4294967295;omega,hI.win,hI.len,hI.may,hI.tm⟩,⟨fun e=>?_,fun e=>?_,fun e=>?_,fun _=>⟨hc.1,hsn⟩,fun e=>?_⟩⟩,by show ¬ (7:Int)=0;decide⟩
    ·exact absurd e (by show ¬ (7:Int)=0;decide)
    ·exact absurd e (by show ¬ (7:Int)=1;decide)
    ·exact absurd e (by show ¬ ((7:Int)=4∨(7:Int)=8);decide)
    ·exact absurd e (by show ¬ ((7:Int)=2∨(7:Int)=5);decide)
  ·rw [if_neg hc];exact ⟨hI,by omega⟩
 unfold Stp.pump3
 split
 ·exact h2.1.tm_of nY h2.2
 ·exact h2.1
theorem vS {x:Stp} (h:CnI x.c):CnI x.pumpT.c:=by
 unfold Stp.pumpT
 cases ht:x.c.talks with
 | true=>exact nS h ht
 | false=>exact h
theorem xm {x:Stp} (h:CnI x.c):CnI x.late.c:=by
 unfold Stp.late
 cases hl:x.c.lateB with
 | false=>exact h
 | true=>exact h.tm_of nY (by intro e;simp [Cn.lateB,e] at hl)
theorem xb {x:Stp} (h:CnI x.c) (m:Sg):CnI (x.more m).c:=xm (vS (od (jj h m) m))
theorem sO {x:Stp} (h:CnI x.c) {m:Sg} (hm:sgB m=true):CnI (x.take m).c:=by
 unfold Stp.take
 cases h0:(x.c.st == 0) with
 | true=>exact h
 | false =>
   simp only [cond_false]
   have h0:x.c.st≠0:=by simpa using h0
   have hk:=mR h hm h0
   cases x.c.accepts m<;>cases flN m.fl 4<;>simp only [cond_true,cond_false]
   ·exact h
   ·cases h8:(x.c.st == 8) with
    | true=>exact h.tm_of (c:=x.acks.c) lB h0
    | false=>exact h
   ·exact h.shut
   ·cases flN m.fl 2<;>simp only [cond_true,cond_false]
    ·exact h
    ·cases flN m.fl 16<;>simp only [cond_true,cond_false]
     ·cases (x.ack m).2<;>simp only [cond_true,cond_false]
      ·exact hk
      ·exact xb hk m
     ·exact h
theorem vu (x:Stp) (m:Sg):(x.ack m).1.out.length≤x.out.length + 1:=by
 have key : ∀ (b:Bool) (p q:Stp × Bool),p.1.out.length≤x.out.length + 1→q.1.out.length≤x.out.length + 1→(bif b then p else q).1.out.length≤x.out.length + 1:=fun b p q h1 h2=>by cases b<;>assumption
 unfold Stp.ack
 refine key _ _ _ (key _ _ _ (by simp) (by simp)) (key _ _ _ (by simp [Stp.acks,Stp.seg]) (key _ _ _ (by simp) (key _ _ _ (key _ _ _ (by simp) (key _ _ _ (by simp) (key _ _ _ (by simp) (by simp)))) (by simp))))
theorem uO (x:Stp) (m:Sg):(x.data m).out=x.out:=by
 unfold Stp.data Stp.dataFin
 cases x.c.hears<;>simp only [cond_true,cond_false]
 cases flN m.fl 1<;>simp only [cond_true,cond_false]
 ·generalize (wadd m.seq m.data.length == (x.dataIn m).c.inx)=b1
  generalize decide (0 < ((x.dataIn m).c.parts.length:Int))=b2
  generalize ((x.dataIn m).c.st == 2)=b3
  generalize ((x.dataIn m).c.st == 3)=b4
  cases b1<;>cases b2<;>cases b3<;>cases b4<;>rfl
 ·rfl
theorem iI {p:Prop} (h:p:=by first|((first|rfl|(refine RowsRen.one ?_;(repeat (refine Cells.cons ?_ ?_;focus (first|exact .val _|exact Ren.gg rfl _|exact Ren.ll rfl _|exact Ren.g2 rfl _|exact Ren.oo rfl _ _|exact Ren.vnil _ _|exact Ren.vgnil _ _|exact Ren.sgs rfl rfl _|exact Ren.sgs1 rfl rfl rfl rfl|exact Ren.pgl rfl rfl _|fail)));exact Cells.nil)|exact bq rfl _|exact aI rfl _|exact aH _);done)|fail):p:=h
theorem xl (x:Stp) (m:Sg) (hI:CnI x.c) (hm:sgB m=true) (hs:x.out.length≤10) :
 ACallL Tryz.prog 116 [.ptr 1 0 0,.agg (sgR 0 m)] [.perm,spO (spR false 6 7 x),.perm,.uniq,.uniq,.uniq,.uniq,.uniq]
  (.tup []) [.perm,spO (spN false 2 8 9 10 11 12 (x.take m)),.perm,.dead,.dead,.dead,.dead,.dead,.uniq,.uniq,.uniq,.uniq,.uniq]:=by
 have px:=al m.data
 obtain ⟨_,_,_,_,_,_,hd⟩:=jE hm
 have hin:=(eT hI.may).1
 have cA:=t8 x m hin hm
 have cK:=vC x m (by omega) hI.len hd
 have cS0:=iP false x (by omega)
 have cC0:=hY false x
 have cL:=kv m (by omega)
 have ho1:=vu x m
 unfold Stp.take
 by_cases h0:(x.c.st == 0)=true
 ·rw [h0,cond_true]
  dsimp only [spN,spR,spL,oL,sgR,sgL]
  refine ACallL.of_ev af Tryz.func116 rfl (fun a w=>Tryz.call116 a w) (congrArg Array.toList Tryz.results116) Tryz.ntmps116 fun B hB=>?_
  ((conv=>whnf);(repeat' ((first|refine gT ?_|(with_reducible refine ab (fun _=>?_) (fun _=>?_))|(refine qAW.jump af 2 ?_))<;>(conv=>whnf))))
  all_goals ((refine qcv hB [(1,1)] [(0,0),(2,2),(3,8),(4,9),(5,10),(6,11),(7,12)] [] ?_;repeat' (with_reducible first|exact trivial|refine And.intro ?_ ?_)))
  all_goals (try exact iI)
 ·have h0:(x.c.st == 0)=false:=by simpa using h0
  rw [h0,cond_false]
  have hI1:=mR hI hm (by simpa using h0)
  obtain ⟨⟨x1,b⟩,h1⟩ : ∃ r,x.ack m=r:=⟨_,rfl⟩
  rw [h1] at cK hI1 ho1 ⊢
  dsimp only at cK hI1 ho1 ⊢
  have cD:=w8 x1 m hI1.may hm
  have hI2:=jj hI1 m
  have ho2:=uO x1 m
  unfold Stp.more
  obtain ⟨x2,h2⟩ : ∃ r,x1.data m=r:=⟨_,rfl⟩
  rw [h2] at cD hI2 ho2 ⊢
  have cS2:=iP false x2 (by rw [ho2];omega)
  have cT2:=pU false x2
  have hI3:CnI x2.acks.c:=hI2
  have ho3:x2.acks.out.length=x2.out.length + 1:=by simp [Stp.acks,Stp.seg]
  obtain ⟨x3,h3⟩ : ∃ r,x2.acks=r:=⟨_,rfl⟩
  rw [h3] at cS2 hI3 ho3
  have cT3:=pU false x3
  obtain ⟨t2,ht2⟩ : ∃ t,x2.c.talks=t:=⟨_,rfl⟩
  obtain ⟨t3,ht3⟩ : ∃ t,x3.c.talks=t:=⟨_,rfl⟩
  have cP2:=fun (h:t2=true)=>pw x2 (hI2.pumpOk (ht2.trans h)) (by rw [ho2];omega)
  have cP3:=fun (h:t3=true)=>pw x3 (hI3.pumpOk (ht3.trans h)) (by rw [ho3,ho2];omega)
  obtain ⟨x4,h4⟩ : ∃ r,x2.pump=r:=⟨_,rfl⟩
  obtain ⟨x5,h5⟩ : ∃ r,x3.pump=r:=⟨_,rfl⟩
  rw [h4] at cP2
  rw [h5] at cP3
  rw [ht2] at cT2
  rw [ht3] at cT3
  obtain ⟨acc,ha⟩ : ∃ r,x.c.accepts m=r:=⟨_,rfl⟩
  rw [ha] at cA ⊢
  clear ho1 ho2 ho3 hI1 hI2 hI3 hI hs hd hin h1 h2 ha
  unfold flN
  dsimp only [spN,spR,spL,oL,sgR,sgL] at cA cK cS0 cC0 cL cD cS2 cT2 cT3 cP2 cP3 ⊢
  refine ACallL.of_ev af Tryz.func116 rfl (fun a w=>Tryz.call116 a w) (congrArg Array.toList Tryz.results116) Tryz.ntmps116 fun B hB=>?_
  ((conv=>whnf);(repeat' ((first|refine gT ?_|(with_reducible refine ab (fun _=>?_) (fun _=>?_))|(refine qAW.jump af 2 ?_)|((with_reducible refine qcp (cL) ?_);refine pT ?_)|((with_reducible refine qcp (aF _) ?_);refine pT ?_)|(refine qCall.sent rfl ?_)|(((with_reducible refine qco (cA) [(1,1)] [(0,0),(2,2),(3,3),(4,4),(5,5),(6,6),(7,7)] [] [] [(1,spO (spN false 2 3 4 5 6 7 x))] (.val (.bool acc)) ?_);refine sT ?_))|(((with_reducible refine qco (cS0) [(1,1)] [(0,0),(2,2),(3,3),(4,4),(5,5),(6,6),(7,7)] [] [(8,9),(9,10)] [(1,spO (spY false 9 10 x (x.out ++ [⟨x.c.port,x.c.pp,x.c.nx,x.c.inx,16,2048,[]⟩]))),(6,.dead),(7,.dead),(9,.uniq),(10,.uniq)] (.tup []) ?_);refine sT ?_))|(((with_reducible refine qco (cC0) [(1,1)] [(0,0),(2,2),(3,3),(4,4),(5,5),(6,6),(7,7)] [] [] [(1,spO (spL (bL 2 []) (.list 3 2 (([]:List Pt).map (prg 4))) (.glist 6 7 (x.out.map (sgG 7))) (gL 5 x.told) x.c.shut))] (.tup []) ?_);refine sT ?_))|(((with_reducible refine qco (cK) [(1,1)] [(0,0),(2,2),(3,3),(4,4),(5,5),(6,6),(7,7)] [] [(8,9),(9,10)] [(1,spO (spN false 2 3 4 5 9 10 x1)),(6,.dead),(7,.dead),(9,.uniq),(10,.uniq)] (.val (.bool b)) ?_);refine sT ?_))|(((with_reducible refine qco (cD) [(1,1)] [(0,0),(2,2),(3,3),(4,4),(5,5),(6,9),(7,10)] [] [(8,11),(9,12),(10,13)] [(1,spO (spN false 2 11 12 13 9 10 x2)),(3,.dead),(4,.dead),(5,.dead),(11,.uniq),(12,.uniq),(13,.uniq)] (.tup []) ?_);refine sT ?_))|(((with_reducible refine qco (cT2) [(1,1)] [(0,0),(2,2),(3,11),(4,12),(5,13),(6,9),(7,10)] [] [] [(1,spO (spN false 2 11 12 13 9 10 x2))] (.val (.bool t2)) ?_);refine sT ?_))|(((with_reducible refine qco (cS2) [(1,1)] [(0,0),(2,2),(3,11),(4,12),(5,13),(6,9),(7,10)] [] [(8,14),(9,15)] [(1,spO (spN false 2 11 12 13 14 15 x3)),(9,.dead),(10,.dead),(14,.uniq),(15,.uniq)] (.tup []) ?_);refine sT ?_))|(((with_reducible refine qco (cT3) [(1,1)] [(0,0),(2,2),(3,11),(4,12),(5,13),(6,14),(7,15)] [] [] [(1,spO (spN false 2 11 12 13 14 15 x3))] (.val (.bool t3)) ?_);refine sT ?_))|(((with_reducible refine qco ((cP2 (by assumption))) [(1,1)] [(0,0),(2,2),(3,11),(4,12),(5,13),(6,9),(7,10)] [] [(8,14),(9,15)] [(1,spO (spN false 2 11 12 13 14 15 x4)),(9,.dead),(10,.dead),(14,.uniq),(15,.uniq)] (.tup []) ?_);refine sT ?_))|(((with_reducible refine qco ((cP3 (by assumption))) [(1,1)] [(0,0),(2,2),(3,11),(4,12),(5,13),(6,14),(7,15)] [] [(8,16),(9,17)] [(1,spO (spN false 2 11 12 13 16 17 x5)),(14,.dead),(15,.dead),(16,.uniq),(17,.uniq)] (.tup []) ?_);refine sT ?_)))<;>(conv=>whnf))))
  all_goals (try simp only [bne,Bool.not_eq_true', Bool.not_eq_false', List.length_map] at *)
  all_goals (simp only [Stp.ackLen,Stp.pumpT,Stp.late,Cn.lateB,Cn.sent, *, cond_true,cond_false,Bool.and_true,Bool.true_and,Bool.and_false,Bool.false_and,Bool.not_true,Bool.not_false])
  all_goals first|((refine qcv hB [(1,1)] [(0,0),(2,2),(11,8),(12,9),(13,10),(14,11),(15,12)] [] ?_;repeat' (with_reducible first|exact trivial|refine And.intro ?_ ?_)))|((refine qcv hB [(1,1)] [(0,0),(2,2),(11,8),(12,9),(13,10),(16,11),(17,12)] [] ?_;repeat' (with_reducible first|exact trivial|refine And.intro ?_ ?_)))|((refine qcv hB [(1,1)] [(0,0),(2,2),(11,8),(12,9),(13,10),(9,11),(10,12)] [] ?_;repeat' (with_reducible first|exact trivial|refine And.intro ?_ ?_)))|((refine qcv hB [(1,1)] [(0,0),(2,2),(3,8),(4,9),(5,10),(9,11),(10,12)] [] ?_;repeat' (with_reducible first|exact trivial|refine And.intro ?_ ?_)))|((refine qcv hB [(1,1)] [(0,0),(2,2),(3,8),(4,9),(5,10),(6,11),(7,12)] [] ?_;repeat' (with_reducible first|exact trivial|refine And.intro ?_ ?_)))
  all_goals (try exact iI)
abbrev noC:AV := .agg [.val (.int .i64 0),.val (.int .i64 0),.val (.int .i64 0),.val (.int .i64 0),.val (.int .i64 0),.val (.int .i64 0),.val (.int .i64 0),.val (.int .i64 0),.val (.slice none 0 0),.val (.int .i64 0),.val (.slice none 0 0),.val (.bool false),.val (.bool false),.val (.int .i64 0),.val (.int .i64 0),.val (.int .i64 0)]
theorem CnI.cnLen {c:Cn} (h:CnI c):aA c:=⟨by have:=h.len;omega,kC h.may⟩
theorem nt {p:Prop} (h:p:=by first|((first|rfl|exact bq rfl _|exact aI rfl _|exact aH _|exact br rfl _);done)|fail):p:=h
def fc (c:Cn) (m:Sg):Bool:=sgB m && (m.sp == c.pp && m.dp == c.port)
theorem sE (c:Cn) (m:Sg) (h1:cnB c=true) (h2:fc c m=true) :
 ACallL Tryz.prog 75 [.agg (cnR 0 c),.agg (sgR 0 m)] [.perm] (.tup [.agg (cnG 1 2 3 (c.takes m).c),.glist 4 7 ((c.takes m).out.map (sgG 5)),gL 6 (c.takes m).told,.val (.int .i64 0)]) [.perm,.uniq,.uniq,.uniq,.uniq,.uniq,.uniq]:=by
 have px:=al c.out
 have py:=ar c.parts
 have pz:=al m.data
 have hI:=(bh c).1 h1
 have cM:=dS c hI.cnLen
 have cS:=fV m
 simp only [fc,Bool.and_eq_true,beq_iff_eq] at h2
 obtain ⟨h2,h3,h4⟩:=h2
 rw [h1] at cM
 rw [h2] at cS
 have cO:=dB c hI.cnLen
 have cT:=xl c.start m hI h2 (by simp [Cn.start])
 have hy:=sO (x:=c.start) hI h2
 unfold Cn.takes
 obtain ⟨y,hy'⟩ : ∃ r,c.start.take m=r:=⟨_,rfl⟩
 rw [hy'] at cT hy ⊢
 have cO2:=dB y.c hy.cnLen
 have e1:(m.sp != c.pp)=false:=by simp [h3]
 have e2:(m.dp != c.port)=false:=by simp [h4]
 unfold Cn.start at cT
 dsimp only [cnR,cnL,cnG,sgR,sgL,spR,spN,spL,oL] at cM cS cO cO2 cT ⊢
 refine ACallL.of_ev af Tryz.func75 rfl (fun a w=>Tryz.call75 a w) (congrArg Array.toList Tryz.results75) Tryz.ntmps75 fun B hB=>?_
 ((conv=>whnf);(repeat' ((first|refine gT ?_|(with_reducible refine ab (fun _=>?_) (fun _=>?_))|((with_reducible refine qcp (cM) ?_);refine pT ?_)|((with_reducible refine qcp (cS) ?_);refine pT ?_))<;>(conv=>whnf))))
 ((with_reducible refine qco (cO) [] [(0,0)] [] [(1,4),(2,5),(3,6)] [(4,.uniq),(5,.uniq),(6,.uniq)] (.agg (cnG 4 5 6 c)) ?_);refine sT ?_)
 ((conv=>whnf);(repeat' ((first|refine gT ?_|(with_reducible refine ab (fun _=>?_) (fun _=>?_)))<;>(conv=>whnf))))
 ((with_reducible refine qco (cT) [(1,7)] [(0,0),(2,4),(3,5),(4,6)] [] [(8,8),(9,9),(10,10),(11,11),(12,12)] [(7,spO (spN false 4 8 9 10 11 12 y)),(5,.dead),(6,.dead),(8,.uniq),(9,.uniq),(10,.uniq),(11,.uniq),(12,.uniq)] (.tup []) ?_);refine sT ?_)
 ((conv=>whnf);(repeat' ((first|refine gT ?_|(with_reducible refine ab (fun _=>?_) (fun _=>?_)))<;>(conv=>whnf))))
 ((with_reducible refine qco (cO2) [] [(0,0),(0,4),(0,8),(0,9)] [] [(1,13),(2,14),(3,15)] [(13,.uniq),(14,.uniq),(15,.uniq)] (.agg (cnG 13 14 15 y.c)) ?_);refine sT ?_)
 ((conv=>whnf);(repeat' ((first|refine gT ?_|(with_reducible refine ab (fun _=>?_) (fun _=>?_)))<;>(conv=>whnf))))
 (refine qcv hB [] [(0,0),(13,1),(14,2),(15,3),(11,4),(12,5),(10,6)] [] ?_;repeat' (with_reducible first|exact trivial|refine And.intro ?_ ?_))
 all_goals (try exact nt)
end Go.Proofs.YtceohcbokbalhaaGreat
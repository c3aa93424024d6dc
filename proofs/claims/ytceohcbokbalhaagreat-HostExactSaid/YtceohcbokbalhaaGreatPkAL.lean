/- Contracts and plain laws, one behind the other: AhTcpS, AhTcpV, AhHoP, AhHoQ, AhTcpT, AhTcpU, AhTcpX, AhTcpW. Conditions are said at each. -/
import Derived.Test.YtceohcbokbalhaaGreatPkAH
import Derived.Test.YtceohcbokbalhaaGreatPkAG
import Derived.Test.YtceohcbokbalhaaGreatPkAK
import Derived.Test.YtceohcbokbalhaaGreatPkAC
import Derived.Test.YtceohcbokbalhaaGreatPkAF
namespace Go.Proofs.YtceohcbokbalhaaGreat
open Go.RowKit
set_option linter.unusedVariables false
set_option linter.unusedSimpArgs false
set_option maxRecDepth 100000
set_option maxHeartbeats 4000000
theorem ed {p:Prop} (h:p:=by first|((first|rfl|(refine RowsRen.one ?_;(repeat (refine Cells.cons ?_ ?_;focus (first|exact .val _|exact Ren.ll rfl _|exact Ren.gg rfl _|exact Ren.g2 rfl _|exact Ren.vnil _ _|exact Ren.vgnil _ _|exact Ren.sll rfl rfl _|exact Ren.sllN rfl rfl rfl rfl|exact Ren.sll1 rfl rfl rfl rfl|exact Ren.pll rfl rfl _|fail)));exact Cells.nil)|exact dr rfl _|exact br rfl _|exact aH _);done)|fail):p:=h
theorem uB (y:Stp):y.pump2=bif y.c.closing && (y.c.sent == (y.c.out.length:Int)) then
 { c := { y.c with nx:=wadd y.c.nx 1,st:=bif y.c.st == 2 then 3 else 7 }, out:=y.out ++ [⟨y.c.port,y.c.pp,y.c.nx,y.c.inx,17,2048,[]⟩],told:=y.told } else y:=by
 unfold Stp.pump2 Cn.len
 by_cases h:y.c.closing=true∧y.c.sent=(y.c.out.length:Int)
 ·rw [if_pos h,h.1,h.2,beq_self_eq_true,Bool.and_true,cond_true]
  by_cases h2:y.c.st=2
  ·rw [if_pos h2,h2];rfl
  ·rw [if_neg h2,show (y.c.st == 2)=false by simpa using h2];rfl
 ·rw [if_neg h]
  cases h1:y.c.closing with
  | false=>rfl
  | true =>
    rw [show (y.c.sent == (y.c.out.length:Int))=false by rw [beq_eq_false_iff_ne];exact fun e=>h ⟨h1,e⟩];rfl
theorem t5 (y:Stp):y.pump3=bif !y.c.tm.on && (decide (0 < y.c.sent) || decide (y.c.sent < (y.c.out.length:Int))) then { y with c := { y.c with tm:=ba 3 } } else y:=by
 unfold Stp.pump3 Cn.len
 by_cases h:y.c.tm.on=false∧(0 < y.c.sent∨y.c.sent < (y.c.out.length:Int))
 ·rw [if_pos h,h.1]
  rcases h.2 with h2|h2
  ·rw [show decide (0 < y.c.sent)=true by simpa using h2];rfl
  ·rw [show decide (y.c.sent < (y.c.out.length:Int))=true by simpa using h2,Bool.or_true];rfl
 ·rw [if_neg h]
  cases h1:y.c.tm.on with
  | true=>rfl
  | false =>
    rw [show decide (0 < y.c.sent)=false by rw [decide_eq_false_iff_not];exact fun e=>h ⟨h1,.inl e⟩,show decide (y.c.sent < (y.c.out.length:Int))=false by rw [decide_eq_false_iff_not];exact fun e=>h ⟨h1,.inr e⟩];rfl
theorem jF (x:Stp) (hP:PumpOk x.c) (hs:x.out.length≤100000) :
 ACallL Tryz.prog 90 [.ptr 1 0 0] [.perm,rsO (rsN 2 3 4 5 6 7 x),.perm,.perm,.perm,.perm,.uniq,.uniq]
  (.tup []) [.perm,rsO (rsN 2 3 4 5 8 9 x.pump),.perm,.perm,.perm,.perm,.dead,.dead,.uniq,.uniq]:=by
 dsimp only [rsN,spL]
 refine ACallL.of_cut af 2 Tryz.func90 rfl (fun a w=>Tryz.call90 a w) (congrArg Array.toList Tryz.results90) Tryz.ntmps90 (by simp only [spine,aJ,List.cons_append,List.nil_append,List.append_assoc,List.take_succ_cons,List.take_zero,List.drop_succ_cons,List.drop_zero];rfl) (by simp only [spine,aJ,List.cons_append,List.nil_append,List.append_assoc,List.take_succ_cons,List.take_zero,List.drop_succ_cons,List.drop_zero];rfl) rfl (X:=Stp) (fun y=>ap 129 [(0,.ptr 1 0 0),(2,.ptr 1 0 0)]) (fun y=>[.perm,rsO (rsN 2 3 4 5 8 9 y),.perm,.perm,.perm,.perm,.dead,.dead,.uniq,.uniq])
  (fun y=>PumpOk y.c∧y.out.length≤x.out.length + 8192∧x.pump=y.pump2.pump3) (fun B hB=>?_) (fun B hB=>?_)
 ·((conv=>whnf);(repeat' ((first|refine gT ?_|(with_reducible refine ab (fun _=>?_) (fun _=>?_)))<;>(conv=>whnf))))
  refine qAW.loopE af (X:=Stp) (fun y=>ap 129 [(0,.ptr 1 0 0),(2,.ptr 1 0 0)]) (fun y=>[.perm,rsO (rsN 2 3 4 5 8 9 y),.perm,.perm,.perm,.perm,.dead,.dead,.uniq,.uniq])
   (fun y=>PumpOk y.c∧y.out.length + (y.c.len - y.c.sent)≤x.out.length + 8192∧pumpGo y.c.out.length y=pumpGo x.c.out.length x) (fun y=>(y.c.len - y.c.sent).toNat) x ⟨hP,by have:=hP.s0;have:=hP.len;unfold Cn.len;omega,rfl⟩ ?_ ?_
  ·(refine qcv hB [(1,1)] [(0,0),(2,2),(3,3),(4,4),(5,5),(6,8),(7,9)] [] ?_;repeat' (with_reducible first|exact trivial|refine And.intro ?_ ?_))
   all_goals (try exact ed)
  ·rintro E y ⟨hy,hb,hg⟩ hE
   have h0:=hy.s0
   have h1:=hy.s1
   have h2:=hy.len
   have h3:=hy.win
   have lo:(y.c.out.map bR).length=y.c.out.length:=by simp
   unfold Cn.sent at h0 h1
   have w1:=IntWalk.i64_in ((y.c.out.length:Int) - ah y.c.nx y.c.una) (by omega)
   have w2:=IntWalk.i64_in (y.c.win - ah y.c.nx y.c.una) (by omega)
   dsimp only [rsN,spL]
   by_cases hn:0 < y.c.pumpN
   ·obtain ⟨a,ha⟩ : ∃ a:Nat,ah y.c.nx y.c.una=a:=⟨(ah y.c.nx y.c.una).toNat,by omega⟩
    obtain ⟨N,hN⟩ : ∃ N:Nat,y.c.pumpN=N:=⟨y.c.pumpN.toNat,by omega⟩
    have hle:=eD hy
    have h1' := eC hy hn
    have h2' := dZ hy hn
    have hgs:=gw hy hn
    have hM:min 536 (min (IntKind.i64.wrap (((y.c.out.map bR).length:Int) - ah y.c.nx y.c.una)) (IntKind.i64.wrap (y.c.win - ah y.c.nx y.c.una)))=N:=by rw [lo,w1,w2, ← hN];unfold Cn.pumpN Cn.len Cn.sent;omega
    have hcond:decide (min 536 (min (IntKind.i64.wrap (((y.c.out.map bR).length:Int) - ah y.c.nx y.c.una)) (IntKind.i64.wrap (y.c.win - ah y.c.nx y.c.una)))≤0)=false:=by rw [hM];simp;omega
    have hsn:y.c.sent=a:=ha
    have w3:IntKind.i64.wrap (ah y.c.nx y.c.una + min 536 (min (IntKind.i64.wrap (((y.c.out.map bR).length:Int) - ah y.c.nx y.c.una)) (IntKind.i64.wrap (y.c.win - ah y.c.nx y.c.una))))=a + N:=by rw [hM,ha];exact IntWalk.i64_in _ (by omega)
    obtain ⟨data,hda⟩ : ∃ d,(y.c.out.drop a).take N=d:=⟨_,rfl⟩
    have cS:=gE y y.c.nx 24 data (by rw [← hda];simp;omega) (by unfold Cn.len at hb;omega)
    have hcb:0≤(some (ah y.c.nx y.c.una)).getD 0∧(some (ah y.c.nx y.c.una)).getD 0≤(some (IntKind.i64.wrap (ah y.c.nx y.c.una + min 536 (min (IntKind.i64.wrap (((y.c.out.map bR).length:Int) - ah y.c.nx y.c.una)) (IntKind.i64.wrap (y.c.win - ah y.c.nx y.c.una)))))).getD ((y.c.out.map bR).length:Int)∧(some (IntKind.i64.wrap (ah y.c.nx y.c.una + min 536 (min (IntKind.i64.wrap (((y.c.out.map bR).length:Int) - ah y.c.nx y.c.una)) (IntKind.i64.wrap (y.c.win - ah y.c.nx y.c.una)))))).getD ((y.c.out.map bR).length:Int)≤(none:Option Int).getD ((y.c.out.map bR).length:Int)∧(none:Option Int).getD ((y.c.out.map bR).length:Int)≤((y.c.out.map bR).length:Int)∧((none:Option Int)=none∨(some (IntKind.i64.wrap (ah y.c.nx y.c.una + min 536 (min (IntKind.i64.wrap (((y.c.out.map bR).length:Int) - ah y.c.nx y.c.una)) (IntKind.i64.wrap (y.c.win - ah y.c.nx y.c.una))))))≠none):=by
     simp only [Option.getD_some,Option.getD_none]
     rw [w3,ha,lo]
     exact ⟨by omega,by omega,by omega,by omega,.inl trivial⟩
    have hsl:((y.c.out.map bR).drop ((some (ah y.c.nx y.c.una)).getD 0).toNat).take ((some (IntKind.i64.wrap (ah y.c.nx y.c.una + min 536 (min (IntKind.i64.wrap (((y.c.out.map bR).length:Int) - ah y.c.nx y.c.una)) (IntKind.i64.wrap (y.c.win - ah y.c.nx y.c.una)))))).getD ((y.c.out.map bR).length:Int) - (some (ah y.c.nx y.c.una)).getD 0).toNat=data.map bR:=by
     simp only [Option.getD_some]
     rw [w3,ha, ← hda,List.map_take,List.map_drop,show ((a:Int) + N - a).toNat=N by omega,Int.toNat_natCast]
    subst hE
    ((conv=>whnf);(repeat' ((first|refine gT ?_|((with_reducible refine ai ?_ ?_);focus (simp [lo,w1,w2];done))|((with_reducible refine aj ?_ ?_);focus (simp [lo,w1,w2];done))|(with_reducible refine ab (fun _=>?_) (fun _=>?_))|(refine qCall.rsent rfl ?_)|(refine ak (slL' rfl rfl rfl rfl rfl rfl rfl rfl hcb hsl) ?_))<;>(conv=>whnf))))
    ((with_reducible refine qco (cS) [(1,1)] [(0,0),(2,2),(3,3),(4,4),(5,5),(6,8),(7,9)] [] [(8,10),(9,11)] [(1,rsO (rsN 2 3 4 5 10 11 (y.seg y.c.nx 24 data))),(8,.dead),(9,.dead),(10,.uniq),(11,.uniq)] (.tup []) ?_);refine sT ?_)
    ((conv=>whnf);(repeat' ((first|refine gT ?_|(with_reducible refine ab (fun _=>?_) (fun _=>?_))|((with_reducible refine qcp (bO _ _) ?_);refine pT ?_))<;>(conv=>whnf))))
    have hp1:y.pump1 = { c := { y.c with nx:=wadd y.c.nx N }, out:=y.out ++ [⟨y.c.port,y.c.pp,y.c.nx,y.c.inx,24,2048,data⟩],told:=y.told }:=by
     unfold Stp.pump1;rw [hN,hsn,Int.toNat_natCast,Int.toNat_natCast,hda]
    refine ⟨y.pump1,⟨h1', ?_,?_⟩,?_,?_⟩
    ·rw [h2']
     have e1:y.pump1.c.len=y.c.len:=rfl
     have e2:y.pump1.out.length=y.out.length + 1:=by rw [hp1];simp
     rw [e1,e2];omega
    ·rw [← hgs];exact hg
    ·rw [h2']
     have e1:y.pump1.c.len=y.c.len:=rfl
     have e3:y.c.len=y.c.out.length:=rfl
     rw [e1];omega
    ·as_aux_lemma =>
      rw [hp1,hM]
      (refine qcv hB [(1,1)] [(0,0),(2,2),(3,3),(4,4),(5,5),(10,8),(11,9)] [] ?_;repeat' (with_reducible first|exact trivial|refine And.intro ?_ ?_))
      all_goals (try exact ed)
   ·have hxe:pumpGo x.c.out.length x=y:=by rw [← hg];exact gZ (by omega) _
    have hM:min 536 (min (IntKind.i64.wrap (((y.c.out.map bR).length:Int) - ah y.c.nx y.c.una)) (IntKind.i64.wrap (y.c.win - ah y.c.nx y.c.una)))=y.c.pumpN:=by rw [lo,w1,w2];unfold Cn.pumpN Cn.len Cn.sent;omega
    have hcond:decide (min 536 (min (IntKind.i64.wrap (((y.c.out.map bR).length:Int) - ah y.c.nx y.c.una)) (IntKind.i64.wrap (y.c.win - ah y.c.nx y.c.una)))≤0)=true:=by rw [hM];simp;omega
    subst hE
    ((conv=>whnf);(repeat' ((first|refine gT ?_|((with_reducible refine ai ?_ ?_);focus (simp [lo,w1,w2];done))|((with_reducible refine aj ?_ ?_);focus (simp [lo,w1,w2];done))|(with_reducible refine ab (fun _=>?_) (fun _=>?_))|(refine qCall.rsent rfl ?_))<;>(conv=>whnf))))
    refine ⟨y,⟨hy,by unfold Cn.len Cn.sent at hb;omega,by unfold Stp.pump;rw [hxe]⟩,?_⟩
    (refine qcv hB [(1,1)] [(0,0),(2,2),(3,3),(4,4),(5,5),(8,8),(9,9)] [] ?_;repeat' (with_reducible first|exact trivial|refine And.intro ?_ ?_))
    all_goals (try exact ed)
 ·rintro y ⟨hy,ho,hg⟩
  have lo:(y.c.out.map bR).length=y.c.out.length:=by simp
  have cS:=gE y y.c.nx 17 [] (by simp) (by omega)
  have hg2:=hg.trans (congrArg Stp.pump3 (uB y))
  obtain ⟨z,hz⟩ : ∃ z,x.pump=z:=⟨_,rfl⟩
  rw [hz] at hg2 ⊢
  clear hg hz
  unfold Cn.sent at hg2
  dsimp only [rsN,spL] at cS ⊢
  ((conv=>whnf);(repeat' ((first|refine gT ?_|((with_reducible refine ai ?_ ?_);focus (simp;done))|((with_reducible refine aj ?_ ?_);focus (simp;done))|(with_reducible refine ab (fun _=>?_) (fun _=>?_))|(refine qCall.rsent rfl ?_)|((with_reducible refine qcp (bO _ _) ?_);refine pT ?_)|((with_reducible refine qcp (ej _) ?_);refine pT ?_)|(((with_reducible refine qco (cS) [(1,1)] [(0,0),(2,2),(3,3),(4,4),(5,5),(6,8),(7,9)] [] [(8,10),(9,11)] [(1,rsO (spL (bL 2 y.c.out) (.list 3 2 (y.c.parts.map (prt 4))) (.glist 10 7 ((y.out ++ [(⟨y.c.port,y.c.pp,y.c.nx,y.c.inx,17,2048,[]⟩:Sg)]).map (sgR 11))) (bL 5 y.told) y.c)),(8,.dead),(9,.dead),(10,.uniq),(11,.uniq)] (.tup []) ?_);refine sT ?_)))<;>(conv=>whnf))))
  all_goals as_aux_lemma =>
   all_goals (try simp only [bne,Bool.not_eq_true', Bool.not_eq_false', List.length_map] at *)
   all_goals (simp only [*, cond_true,cond_false,Bool.and_true,Bool.and_false] at hg2)
   all_goals (rw [t5] at hg2;unfold Cn.sent at hg2;dsimp only at hg2)
   all_goals (simp only [*, cond_true,cond_false,Bool.true_or,Bool.or_true,Bool.false_or,Bool.or_false,Bool.true_and,Bool.false_and,Bool.and_true,Bool.and_false,Bool.not_true,Bool.not_false] at hg2)
   all_goals subst hg2
   all_goals (try simp only [show y.c.closing=true by assumption])
   all_goals (try simp only [show y.c.closing=false by assumption])
   all_goals first|((refine qcv hB [(1,1)] [(0,0),(2,2),(3,3),(4,4),(5,5),(10,8),(11,9)] [] ?_;repeat' (with_reducible first|exact trivial|refine And.intro ?_ ?_)))|((refine qcv hB [(1,1)] [(0,0),(2,2),(3,3),(4,4),(5,5),(8,8),(9,9)] [] ?_;repeat' (with_reducible first|exact trivial|refine And.intro ?_ ?_)))
   all_goals (try exact ed)
theorem dt {p:Prop} (h:p:=by first|((first|rfl|(refine RowsRen.one ?_;(repeat (refine Cells.cons ?_ ?_;focus (first|exact .val _|exact Ren.ll rfl _|exact Ren.gg rfl _|exact Ren.g2 rfl _|exact Ren.vnil _ _|exact Ren.vgnil _ _|exact Ren.sll rfl rfl _|exact Ren.sllN rfl rfl rfl rfl|exact Ren.sll1 rfl rfl rfl rfl|exact Ren.pll rfl rfl _|fail)));exact Cells.nil)|exact dr rfl _|exact br rfl _|exact aH _);done)|fail):p:=h
abbrev rsH (x:Stp):List Own:=[.perm,rsO (rsN 2 3 4 5 6 7 x),.uniq,.uniq,.uniq,.uniq,.uniq,.uniq]
theorem m4 (c:Cn) (h:cnB c=true):ACallL Tryz.prog 58 [.agg (cnR 0 c)] [.perm] (.ptr 1 0 0) (rsH c.aborts):=by
 have px:=al c.out
 have py:=ar c.parts
 have hI:=(bh c).1 h
 have cB:=fG c hI.cnLen
 have cS:=gE c.start c.nx 20 [] (by simp) (by simp [Cn.start])
 obtain ⟨y,hy⟩ : ∃ r,c.start.seg c.nx 20 []=r:=⟨_,rfl⟩
 rw [hy] at cS
 have cC:=jo y
 unfold Cn.aborts Stp.abort
 have e0:c.start.c=c:=rfl
 rw [e0,hy]
 cases h0:(c.st == 0) with
 | true =>
   have h0' : (c.st != 0)=false:=by simpa using h0
   have e1:c.start.shut=c.start:=by
    obtain ⟨z1,z2,z3⟩:=hI.num.z (by simpa using h0)
    unfold Cn.start Stp.shut Cn.shut
    obtain ⟨link,ip,pp,port,st,una,nx,win,out,inx,parts,closing,tm⟩:=c
    simp only at z1 z2 z3 h0
    subst z1 z2 z3
    simp only [beq_iff_eq] at h0
    subst h0
    rfl
   rw [cond_true,e1]
   unfold Cn.start at cB ⊢
   dsimp only [cnR,cnL,rsN,spL] at cB ⊢
   refine ACallL.of_ev af Tryz.func58 rfl (fun a w=>Tryz.call58 a w) (congrArg Array.toList Tryz.results58) Tryz.ntmps58 fun B hB=>?_
   ((conv=>whnf);(repeat' ((first|refine gT ?_|(with_reducible refine ab (fun _=>?_) (fun _=>?_)))<;>(conv=>whnf))))
   ((with_reducible refine qco (cB) [] [(0,0)] [] [(1,2),(2,3),(3,4),(4,5),(5,6),(6,7),(7,8)] [(2,rsO (rsN 3 4 5 6 7 8 ⟨c,[],[]⟩)),(3,.uniq),(4,.uniq),(5,.uniq),(6,.uniq),(7,.uniq),(8,.uniq)] (.ptr 2 0 0) ?_);refine sT ?_)
   ((conv=>whnf);(repeat' ((first|refine gT ?_|(with_reducible refine ab (fun _=>?_) (fun _=>?_)))<;>(conv=>whnf))))
   (refine qcv hB [(2,1)] [(0,0),(3,2),(4,3),(5,4),(6,5),(7,6),(8,7)] [] ?_;repeat' (with_reducible first|exact trivial|refine And.intro ?_ ?_))
   all_goals (try exact dt)
 | false =>
   have h0' : (c.st != 0)=true:=by simpa using h0
   rw [cond_false]
   unfold Cn.start at cB cS
   dsimp only [cnR,cnL,rsN,spL] at cB cS cC ⊢
   refine ACallL.of_ev af Tryz.func58 rfl (fun a w=>Tryz.call58 a w) (congrArg Array.toList Tryz.results58) Tryz.ntmps58 fun B hB=>?_
   ((conv=>whnf);(repeat' ((first|refine gT ?_|(with_reducible refine ab (fun _=>?_) (fun _=>?_)))<;>(conv=>whnf))))
   ((with_reducible refine qco (cB) [] [(0,0)] [] [(1,2),(2,3),(3,4),(4,5),(5,6),(6,7),(7,8)] [(2,rsO (rsN 3 4 5 6 7 8 ⟨c,[],[]⟩)),(3,.uniq),(4,.uniq),(5,.uniq),(6,.uniq),(7,.uniq),(8,.uniq)] (.ptr 2 0 0) ?_);refine sT ?_)
   ((conv=>whnf);(repeat' ((first|refine gT ?_|(with_reducible refine ab (fun _=>?_) (fun _=>?_)))<;>(conv=>whnf))))
   ((with_reducible refine qco (cS) [(1,2)] [(0,0),(2,3),(3,4),(4,5),(5,6),(6,7),(7,8)] [] [(8,9),(9,10)] [(2,rsO (rsN 3 4 5 6 9 10 y)),(7,.dead),(8,.dead),(9,.uniq),(10,.uniq)] (.tup []) ?_);refine sT ?_)
   ((conv=>whnf);(repeat' ((first|refine gT ?_|(with_reducible refine ab (fun _=>?_) (fun _=>?_)))<;>(conv=>whnf))))
   ((with_reducible refine qco (cC) [(1,2)] [(0,0),(2,3),(3,4),(4,5),(5,6),(6,9),(7,10)] [] [] [(2,rsO (rsN 3 4 5 6 9 10 y.shut))] (.tup []) ?_);refine sT ?_)
   ((conv=>whnf);(repeat' ((first|refine gT ?_|(with_reducible refine ab (fun _=>?_) (fun _=>?_)))<;>(conv=>whnf))))
   (refine qcv hB [(2,1)] [(0,0),(3,2),(4,3),(5,4),(6,5),(9,6),(10,7)] [] ?_;repeat' (with_reducible first|exact trivial|refine And.intro ?_ ?_))
   all_goals (try exact dt)
theorem t4 (c:Cn) (hc:aA c):ACallL Tryz.prog 89 [.agg (cnR 0 c)] [.perm] (.ptr 1 0 0) [.perm,rsO (spL (gL 2 c.out) (.list 3 2 (c.parts.map (prt 4))) (.glist 6 7 (([]:List Sg).map (sgR 7))) (bL 5 []) c),.uniq,.uniq,.uniq,.uniq,.uniq,.uniq]:=by
 have cO:=ii c hc
 dsimp only [cnR,cnL,cnG,spL] at cO ⊢
 refine ACallL.of_ev af Tryz.func89 rfl (fun a w=>Tryz.call89 a w) (congrArg Array.toList Tryz.results89) Tryz.ntmps89 fun B hB=>?_
 ((conv=>whnf);(repeat' ((first|refine gT ?_|(with_reducible refine ab (fun _=>?_) (fun _=>?_)))<;>(conv=>whnf))))
 ((with_reducible refine qco (cO) [] [(0,0)] [] [(1,2),(2,3),(3,4)] [(2,.uniq),(3,.uniq),(4,.uniq)] (.agg (cnG 2 3 4 c)) ?_);refine sT ?_)
 ((conv=>whnf);(repeat' ((first|refine gT ?_|(with_reducible refine ab (fun _=>?_) (fun _=>?_)))<;>(conv=>whnf))))
 (refine qcv hB [(5,1)] [(0,0),(2,2),(3,3),(4,4)] [] ?_;repeat' (with_reducible first|exact trivial|refine And.intro ?_ ?_))
 all_goals (try (first|rfl|(refine RowsRen.one ?_;(repeat (refine Cells.cons ?_ ?_;focus (first|exact .val _|exact Ren.gg rfl _|exact Ren.pg2 rfl rfl _|exact Ren.vnil _ _|exact Ren.vgnil _ _|fail)));exact Cells.nil)))
theorem sA (c:Cn) (h:c.closeE=6):ACallL Tryz.prog 56 [.agg (cnR 0 c)] [.perm] (.tup [.val (.pointer none),.val (.int .i64 6)]) [.perm]:=by
 have px:=al c.out
 have py:=ar c.parts
 unfold Cn.closeE Cn.talks at h
 dsimp only [cnR,cnL]
 refine ACallL.of_ev af Tryz.func56 rfl (fun a w=>Tryz.call56 a w) (congrArg Array.toList Tryz.results56) Tryz.ntmps56 fun B hB=>?_
 ((conv=>whnf);(repeat' ((first|refine gT ?_|(with_reducible refine ab (fun _=>?_) (fun _=>?_)))<;>(conv=>whnf))))
 all_goals (try simp only [bne,Bool.not_eq_true', Bool.not_eq_false'] at *)
 all_goals first|((refine qcv hB [] [(0,0)] [] ?_;repeat' (with_reducible first|exact trivial|refine And.intro ?_ ?_)))|(exfalso;simp_all;done)
theorem tE (c:Cn) (h:cnB c=true) (he:c.closeE=0):ACallL Tryz.prog 56 [.agg (cnR 0 c)] [.perm] (.tup [.ptr 1 0 0,.val (.int .i64 0)]) (rsH c.closes):=by
 have px:=al c.out
 have py:=ar c.parts
 have hI:=(bh c).1 h
 have cB:=fG c hI.cnLen
 obtain ⟨hcl,hts⟩:c.closing=false∧(c.talks || c.st == 1)=true:=by
  unfold Cn.closeE at he
  cases h1:c.closing<;>cases h2:(c.talks || c.st == 1)<;>rw [h1,h2] at he<;>simp at he ⊢
 unfold Cn.closes
 cases ht:c.talks with
 | true =>
   have cP:=jF (({ c with closing:=true } : Cn)).start ⟨hI.una,hI.nx,((hI.pumpOk ht).s0),((hI.pumpOk ht).s1),hI.len,hI.win⟩ (by simp [Cn.start])
   obtain ⟨y,hy⟩ : ∃ r,(({ c with closing:=true } : Cn)).start.pump=r:=⟨_,rfl⟩
   rw [hy] at cP
   rw [cond_true,hy]
   have hst:c.st=2∨c.st=5:=by simpa [Cn.talks] using ht
   unfold Cn.start at cB cP
   dsimp only [cnR,cnL,rsN,spL] at cB cP ⊢
   rcases hst with hst|hst
   all_goals
    have s1:(c.st != 1)=true:=by rw [hst];decide
    have s5:(c.st != 5)=(c.st == 2):=by rw [hst];decide
    have s2:(c.st != 2)=(c.st == 5):=by rw [hst];decide
    have s3:(c.st == 2)=decide (c.st=2):=rfl
    refine ACallL.of_ev af Tryz.func56 rfl (fun a w=>Tryz.call56 a w) (congrArg Array.toList Tryz.results56) Tryz.ntmps56 fun B hB=>?_
    ((conv=>whnf);(repeat' ((first|refine gT ?_|((with_reducible refine ai ?_ ?_);focus (simp [hcl,hst];done))|((with_reducible refine aj ?_ ?_);focus (simp [hcl,hst];done))|(with_reducible refine ab (fun _=>?_) (fun _=>?_)))<;>(conv=>whnf))))
    ((with_reducible refine qco (cB) [] [(0,0)] [] [(1,2),(2,3),(3,4),(4,5),(5,6),(6,7),(7,8)] [(2,rsO (rsN 3 4 5 6 7 8 ⟨c,[],[]⟩)),(3,.uniq),(4,.uniq),(5,.uniq),(6,.uniq),(7,.uniq),(8,.uniq)] (.ptr 2 0 0) ?_);refine sT ?_)
    ((conv=>whnf);(repeat' ((first|refine gT ?_|((with_reducible refine ai ?_ ?_);focus (simp [hcl,hst];done))|((with_reducible refine aj ?_ ?_);focus (simp [hcl,hst];done))|(with_reducible refine ab (fun _=>?_) (fun _=>?_)))<;>(conv=>whnf))))
    ((with_reducible refine qco (cP) [(1,2)] [(0,0),(2,3),(3,4),(4,5),(5,6),(6,7),(7,8)] [] [(8,9),(9,10)] [(2,rsO (rsN 3 4 5 6 9 10 y)),(7,.dead),(8,.dead),(9,.uniq),(10,.uniq)] (.tup []) ?_);refine sT ?_)
    ((conv=>whnf);(repeat' ((first|refine gT ?_|(with_reducible refine ab (fun _=>?_) (fun _=>?_)))<;>(conv=>whnf))))
    (refine qcv hB [(2,1)] [(0,0),(3,2),(4,3),(5,4),(6,5),(9,6),(10,7)] [] ?_;repeat' (with_reducible first|exact trivial|refine And.intro ?_ ?_))
    all_goals (try exact dt)
 | false =>
   have hst:c.st=1:=by rw [ht] at hts;simpa using hts
   rw [cond_false]
   unfold Cn.start at cB ⊢
   dsimp only [cnR,cnL,rsN,spL] at cB ⊢
   refine ACallL.of_ev af Tryz.func56 rfl (fun a w=>Tryz.call56 a w) (congrArg Array.toList Tryz.results56) Tryz.ntmps56 fun B hB=>?_
   ((conv=>whnf);(repeat' ((first|refine gT ?_|((with_reducible refine ai ?_ ?_);focus (simp [hcl,hst];done))|((with_reducible refine aj ?_ ?_);focus (simp [hcl,hst];done))|(with_reducible refine ab (fun _=>?_) (fun _=>?_)))<;>(conv=>whnf))))
   ((with_reducible refine qco (cB) [] [(0,0)] [] [(1,2),(2,3),(3,4),(4,5),(5,6),(6,7),(7,8)] [(2,rsO (rsN 3 4 5 6 7 8 ⟨c,[],[]⟩)),(3,.uniq),(4,.uniq),(5,.uniq),(6,.uniq),(7,.uniq),(8,.uniq)] (.ptr 2 0 0) ?_);refine sT ?_)
   ((conv=>whnf);(repeat' ((first|refine gT ?_|((with_reducible refine ai ?_ ?_);focus (simp [hcl,hst];done))|((with_reducible refine aj ?_ ?_);focus (simp [hcl,hst];done))|(with_reducible refine ab (fun _=>?_) (fun _=>?_)))<;>(conv=>whnf))))
   (refine qcv hB [(2,1)] [(0,0),(3,2),(4,3),(5,4),(6,5),(7,6),(8,7)] [] ?_;repeat' (with_reducible first|exact trivial|refine And.intro ?_ ?_))
   all_goals (try exact dt)
theorem tU (c:Cn) (xs:List Int) (ho:c.out.length≤8192) (h:c.sendE xs≠0):ACallL Tryz.prog 51 [.agg (cnR 0 c),bL 0 xs] [.perm] (.tup [.val (.pointer none),.val (.int .i64 (c.sendE xs))]) [.perm]:=by
 have px:=al c.out
 have py:=ar c.parts
 have pz:=al xs
 have w:=IntWalk.i64_in (8192 - (c.out.length:Int)) (by omega)
 unfold Cn.sendE Cn.talks at h ⊢
 rw [← w] at h ⊢
 clear w ho
 dsimp only [cnR,cnL]
 refine ACallL.of_ev af Tryz.func51 rfl (fun a w=>Tryz.call51 a w) (congrArg Array.toList Tryz.results51) Tryz.ntmps51 fun B hB=>?_
 ((conv=>whnf);(repeat' ((first|refine gT ?_|(with_reducible refine ab (fun _=>?_) (fun _=>?_)))<;>(conv=>whnf))))
 all_goals (try simp only [bne,Bool.not_eq_true', Bool.not_eq_false', List.length_map] at *)
 all_goals (try simp only [*, cond_true,cond_false,Bool.true_or,Bool.or_true,Bool.false_or,Bool.or_false,Bool.true_and,Bool.false_and,Bool.and_true,Bool.and_false,Bool.not_true,Bool.not_false])
 all_goals first|((refine qcv hB [] [(0,0)] [] ?_;repeat' (with_reducible first|exact trivial|refine And.intro ?_ ?_)))|(exfalso;simp_all;done)
theorem wl (c:Cn) (xs:List Int) (h:cnB c=true) (he:c.sendE xs=0):ACallL Tryz.prog 51 [.agg (cnR 0 c),bL 0 xs] [.perm] (.tup [.ptr 1 0 0,.val (.int .i64 0)]) (rsH (c.sends xs)):=by
 have px:=al c.out
 have py:=ar c.parts
 have pz:=al xs
 have hI:=(bh c).1 h
 have cB:=t4 c hI.cnLen
 have hlen:=hI.len
 have lo:(c.out.map bR).length=c.out.length:=by simp
 have lx:(xs.map bR).length=xs.length:=by simp
 obtain ⟨ht,hcl,hle⟩:c.talks=true∧c.closing=false ∧ ¬ (8192 - (c.out.length:Int) < (xs.length:Int)):=by
  unfold Cn.sendE at he
  cases h1:c.closing<;>cases h2:c.talks<;>rw [h1,h2] at he<;>simp at he ⊢
  cases h3:decide (8192 - (c.out.length:Int) < (xs.length:Int)) with
  | true=>rw [h3] at he;simp at he
  | false=>simpa using h3
 have w:=IntWalk.i64_in (8192 - (c.out.length:Int)) (by omega)
 have hle' : decide (IntKind.i64.wrap (8192 - ((c.out.map bR).length:Int)) < ((xs.map bR).length:Int))=false:=by rw [lo,lx,w,decide_eq_false_iff_not];exact hle
 unfold Cn.sends
 have hlx:(c.out ++ xs).length≤8192:=by simp;omega
 have hP:=hI.pumpOk ht
 have cP:=jF (({ c with out:=c.out ++ xs } : Cn)).start ⟨hI.una,hI.nx,hP.s0,by have:=hP.s1;show ah c.nx c.una≤((c.out ++ xs).length:Int);unfold Cn.sent at this;simp;omega,hlx,hI.win⟩ (by simp [Cn.start])
 obtain ⟨y,hy⟩ : ∃ r,(({ c with out:=c.out ++ xs } : Cn)).start.pump=r:=⟨_,rfl⟩
 rw [hy] at cP ⊢
 have hst:c.st=2∨c.st=5:=by simpa [Cn.talks] using ht
 have hmap:c.out.map bR ++ xs.map bR=(c.out ++ xs).map bR:=by simp
 unfold Cn.start at cP
 dsimp only [cnR,cnL,rsN,spL] at cB cP ⊢
 rcases hst with hst|hst
 all_goals
  refine ACallL.of_ev af Tryz.func51 rfl (fun a w=>Tryz.call51 a w) (congrArg Array.toList Tryz.results51) Tryz.ntmps51 fun B hB=>?_
  ((conv=>whnf);(repeat' ((first|refine gT ?_|((with_reducible refine ai ?_ ?_);focus (simp [hcl,hst];done))|((with_reducible refine aj ?_ ?_);focus (simp [hcl,hst];done))|(with_reducible refine ab (fun _=>?_) (fun _=>?_)))<;>(conv=>whnf))))
  ((with_reducible refine qco (cB) [] [(0,0)] [] [(1,2),(2,3),(3,4),(4,5),(5,6),(6,7),(7,8)] [(2,rsO (spL (gL 3 c.out) (.list 4 2 (c.parts.map (prt 5))) (.glist 7 7 (([]:List Sg).map (sgR 8))) (bL 6 []) c)),(3,.uniq),(4,.uniq),(5,.uniq),(6,.uniq),(7,.uniq),(8,.uniq)] (.ptr 2 0 0) ?_);refine sT ?_)
  ((conv=>whnf);(repeat' ((first|refine gT ?_|(with_reducible refine ab (fun _=>?_) (fun _=>?_))|(refine ak (apG' (nb:=1) rfl rfl rfl rfl rfl rfl rfl rfl rfl rfl (by decide) (iq xs) (by rw [lo,lx];omega) hmap) ?_))<;>(conv=>whnf))))
  ((with_reducible refine qco (cP) [(1,2)] [(0,0),(2,9),(3,4),(4,5),(5,6),(6,7),(7,8)] [] [(8,10),(9,11)] [(2,rsO (rsN 9 4 5 6 10 11 y)),(7,.dead),(8,.dead),(10,.uniq),(11,.uniq)] (.tup []) ?_);refine sT ?_)
  ((conv=>whnf);(repeat' ((first|refine gT ?_|(with_reducible refine ab (fun _=>?_) (fun _=>?_)))<;>(conv=>whnf))))
  (refine qcv hB [(2,1)] [(0,0),(9,2),(4,3),(5,4),(6,5),(10,6),(11,7)] [] ?_;repeat' (with_reducible first|exact trivial|refine And.intro ?_ ?_))
  all_goals (try exact dt)
theorem l7 (c:Cn) (m:Sg):ACallL Tryz.prog 65 [.agg (cnR 0 c),.agg (sgR 0 m)] [.perm] (.val (.bool (fc c m))) [.perm]:=by
 have px:=al c.out
 have py:=ar c.parts
 have pz:=al m.data
 have cS:=jW m
 unfold fc
 obtain ⟨bs,hbs⟩ : ∃ b,sgB m=b:=⟨_,rfl⟩
 rw [hbs] at cS ⊢
 clear hbs
 dsimp only [cnR,cnL,sgR,sgL] at cS ⊢
 refine ACallL.of_ev af Tryz.func65 rfl (fun a w=>Tryz.call65 a w) (congrArg Array.toList Tryz.results65) Tryz.ntmps65 fun B hB=>?_
 ((conv=>whnf);(repeat' ((first|refine gT ?_|(with_reducible refine ab (fun _=>?_) (fun _=>?_))|((with_reducible refine qcp (cS) ?_);refine pT ?_))<;>(conv=>whnf))))
 all_goals (refine qcv hB [] [(0,0)] [] ?_;repeat' (with_reducible first|exact trivial|refine And.intro ?_ ?_))
 all_goals (try simp only [*, Bool.true_and,Bool.false_and,Bool.and_true,Bool.and_false])
def ep (l:List Cn):Nat→Int
 | 0=>0
 | i + 1=>(l.getD i cnZ).link
theorem td {l:List Cn} {i:Nat} {c:Cn} {count:Int} {b:Bool} (hc:l[i]?=some c) (hl:0 < i→1≤ep l i) (hgo:bN count (ep l i) (l.take i) (l.drop i)=b) (p:Cn) (hp:0 < i→l[i - 1]?=some p) :
 (b=false∧(cnB c=false∨cnB c=true∧(c.st == 0)=true∨cnB c=true∧(c.st == 0)=false∧decide (c.link < 1)=true∨cnB c=true∧(c.st == 0)=false∧decide (c.link < 1)=false∧decide (count < c.link)=true ∨
  cnB c=true∧(c.st == 0)=false∧decide (c.link < 1)=false∧decide (count < c.link)=false∧(decide (0 < (i:Int))=true∧decide (c.link≤p.link)=true∨decide (0 < (i:Int))=true∧decide (c.link≤p.link)=false∧(c.port != 1883)=true∨decide (0 < (i:Int))=false∧(c.port != 1883)=true))) ∨
 (cnB c=true∧(c.st == 0)=false∧decide (c.link < 1)=false∧decide (count < c.link)=false∧(decide (0 < (i:Int))=true∧decide (c.link≤p.link)=false∨decide (0 < (i:Int))=false)∧(c.port != 1883)=false∧1≤c.link ∧
  (!ck c (l.take i) && bN count (ep l (i + 1)) (l.take (i + 1)) (l.drop (i + 1)))=b):=by
 have e1:ep l (i + 1)=c.link:=by unfold ep;simp [List.getD,hc]
 rw [e1,bj hc]
 rw [bI hc,bN] at hgo
 have hlast:decide (ep l i < c.link)=(!decide (c.link < 1) && !(decide (0 < (i:Int)) && decide (c.link≤p.link))):=by
  cases i with
  | zero =>
    rw [show decide (0 < ((0:Nat):Int))=false by decide,Bool.false_and,Bool.not_false,Bool.and_true,Bool.eq_iff_iff]
    unfold ep
    simp only [decide_eq_true_eq,Bool.not_eq_true', decide_eq_false_iff_not]
    omega
  | succ i =>
    have h1:=hl (by omega)
    have h2:=hp (by omega)
    have h2:l[i]?=some p:=h2
    have h3:ep l (i + 1)=p.link:=by unfold ep;simp [List.getD,h2]
    rw [h3] at h1 ⊢
    rw [Bool.eq_iff_iff]
    simp only [decide_eq_true_eq,Bool.and_eq_true,Bool.not_eq_true', decide_eq_false_iff_not,Bool.and_eq_false_iff]
    omega
 have hcount:decide (c.link≤count) = !decide (count < c.link):=by rw [Bool.eq_iff_iff];simp
 have hport:(c.port == 1883) = !(c.port != 1883):=by rw [bne,Bool.not_not]
 have h1:decide (c.link < 1)=false→1≤c.link:=fun h=>by simpa using h
 rw [hlast,hcount,hport] at hgo
 generalize bN count c.link (l.take i ++ [c]) (l.drop (i + 1))=v9 at hgo ⊢
 generalize ck c (l.take i)=v8 at hgo ⊢
 generalize (c.port != 1883)=v7 at hgo ⊢
 generalize decide (c.link≤p.link)=v6 at hgo ⊢
 generalize decide (0 < (i:Int))=v5 at hgo ⊢
 generalize decide (count < c.link)=v4 at hgo ⊢
 generalize decide (c.link < 1)=v3 at hgo h1 ⊢
 generalize (c.st == 0)=v2 at hgo ⊢
 generalize cnB c=v1 at hgo ⊢
 subst hgo
 cases v1
 ·simp
 cases v2
 ·cases v3
  ·have h1:=h1 rfl
   cases v4<;>cases v5<;>cases v6<;>cases v7<;>simp [h1]
  ·simp
 ·simp
theorem pN (h:Ho) (hl:h.conns.length≤100000000) (hc : ∀ c∈h.conns,aA c):ACallL Tryz.prog 14 [.agg (hoR h)] [.perm] (.val (.bool (aR h))) [.perm]:=by
 obtain ⟨l,count⟩:=h
 have px:=aQ l
 have ll:(l.map (cnR 0)).length=l.length:=by simp
 have cN:=mT count 1099511627776
 rw [← am.eq_1] at cN
 unfold aR
 dsimp only [hoR] at hl hc ⊢
 by_cases h8:l.length≤8
 ·have g8:decide (8 < ((l.map (cnR 0)).length:Int))=false:=by simp;omega
  rw [show decide (l.length≤8)=true by simpa using h8,Bool.true_and]
  cases hw:am count 1099511627776 with
  | false =>
    rw [hw] at cN
    rw [Bool.false_and]
    refine ACallL.of_ev af Tryz.func14 rfl (fun a w=>Tryz.call14 a w) (congrArg Array.toList Tryz.results14) Tryz.ntmps14 fun B hB=>?_
    ((conv=>whnf);(repeat' ((first|refine gT ?_|((with_reducible refine ai ?_ ?_);focus (simp;done))|((with_reducible refine aj ?_ ?_);focus (simp;done))|(with_reducible refine ab (fun _=>?_) (fun _=>?_))|((with_reducible refine qcp (cN) ?_);refine pT ?_))<;>(conv=>whnf))))
    (refine qcv hB [] [(0,0)] [] ?_;repeat' (with_reducible first|exact trivial|refine And.intro ?_ ?_))
  | true =>
    rw [hw] at cN
    rw [Bool.true_and]
    obtain ⟨b,hb⟩ : ∃ b,bN count 0 [] l=b:=⟨_,rfl⟩
    rw [hb]
    refine ACallL.of_ev af Tryz.func14 rfl (fun a w=>Tryz.call14 a w) (congrArg Array.toList Tryz.results14) Tryz.ntmps14 fun B hB=>?_
    ((conv=>whnf);(repeat' ((first|refine gT ?_|((with_reducible refine ai ?_ ?_);focus (simp;done))|((with_reducible refine aj ?_ ?_);focus (simp;done))|(with_reducible refine ab (fun _=>?_) (fun _=>?_))|((with_reducible refine qcp (cN) ?_);refine pT ?_))<;>(conv=>whnf))))
    refine qAW.loopE af (X:=Nat) (fun i=>ap 94 [(1,.ptr 1 0 0),(2,.val (.bool false)),(3,.val (.int .i64 i))]) (fun i=>[.perm,.live ⟨2,24,[[.list 0 16 (l.map (cnR 0)),.val (.int .i64 count)]]⟩])
     (fun i=>i≤l.length∧(0 < i→1≤ep l i)∧bN count (ep l i) (l.take i) (l.drop i)=b) (fun i=>l.length - i) 0 ⟨Nat.zero_le _,fun h=>absurd h (Nat.lt_irrefl _),hb⟩ ?_ ?_
    ·(refine qcv hB [(1,1)] [(0,0)] [] ?_;repeat' (with_reducible first|exact trivial|refine And.intro ?_ ?_))
     all_goals first|rfl|(exact ao)|trace_state
    ·rintro E i ⟨hi,h1,hgo⟩ hE
     have w:=IntWalk.i64_in ((i:Int) + 1) (by omega)
     by_cases hlt:i < l.length
     ·obtain ⟨c,hck⟩ : ∃ p,l[i]?=some p:=⟨_,List.getElem?_eq_getElem hlt⟩
      have hrow:(l.map (cnR 0))[(i:Int).toNat]?=some (cnR 0 c):=by simp [hck]
      obtain ⟨p,hp⟩ : ∃ p,0 < i→l[i - 1]?=some p:=by
       by_cases h0:0 < i
       ·exact ⟨l[i - 1],fun _=>List.getElem?_eq_getElem (by omega)⟩
       ·exact ⟨cnZ,fun h=>absurd h h0⟩
      have hrowp:0 < i→(l.map (cnR 0))[(IntKind.i64.wrap ((i:Int) - 1)).toNat]?=some (cnR 0 p):=fun h=>by
       rw [IntWalk.i64_in _ (by omega),show ((i:Int) - 1).toNat=i - 1 by omega];simp [hp h]
      have wge:0 < i→0≤IntKind.i64.wrap ((i:Int) - 1):=fun h=>by rw [IntWalk.i64_in _ (by omega)];omega
      have p1:=al c.out
      have p2:=ar c.parts
      have cC:=sW c (hc c (List.mem_of_getElem? hck))
      dsimp only [cnR,cnL] at cC
      rcases td hck h1 hgo p hp with ⟨rfl,ways⟩|⟨v1,v2,v3,v4,v5,v7,hlk,hgo2⟩
      ·rcases ways with v1|⟨v1,v2⟩|⟨v1,v2,v3⟩|⟨v1,v2,v3,v4⟩|⟨v1,v2,v3,v4,(⟨v5,v6⟩|⟨v5,v6,v7⟩|⟨v5,v7⟩)⟩
       all_goals
        rw [v1] at cC
        try (have h0i:0 < i:=by have:=of_decide_eq_true v5;omega)
        subst hE
        ((conv=>whnf);(repeat' ((first|refine gT ?_|((with_reducible refine ai ?_ ?_);focus (simp [hlt];done))|((with_reducible refine aj ?_ ?_);focus (simp [hlt];done))|(with_reducible refine ab (fun _=>?_) (fun _=>?_))|((with_reducible refine qcp (cC) ?_);refine pT ?_)|(refine ak (idxL rfl rfl rfl rfl rfl rfl (by omega) hrow) ?_)|(refine ak (idxL rfl rfl rfl rfl rfl rfl (wge h0i) (hrowp h0i)) ?_))<;>(conv=>whnf))))
        (refine qcv hB [] [(0,0)] [] ?_;repeat' (with_reducible first|exact trivial|refine And.intro ?_ ?_))
      ·rw [v1] at cC
       rcases v5 with ⟨v5,v6⟩|v5
       all_goals
        try (have h0i:0 < i:=by have:=of_decide_eq_true v5;omega)
        subst hE
        ((conv=>whnf);(repeat' ((first|refine gT ?_|((with_reducible refine ai ?_ ?_);focus (simp [hlt];done))|((with_reducible refine aj ?_ ?_);focus (simp [hlt];done))|(with_reducible refine ab (fun _=>?_) (fun _=>?_))|((with_reducible refine qcp (cC) ?_);refine pT ?_)|(refine ak (idxL rfl rfl rfl rfl rfl rfl (by omega) hrow) ?_)|(refine ak (idxL rfl rfl rfl rfl rfl rfl (wge h0i) (hrowp h0i)) ?_))<;>(conv=>whnf))))
        refine qAW.loopE af (X:=Nat) (fun k=>ap 94 [(1,.ptr 1 0 0),(2,.val (.bool false)),(3,.val (.int .i64 i)),(4,.ptr 2 0 0),(5,.val (.int .i64 k))]) (fun _=>[.perm,.live ⟨2,24,[[.list 0 16 (l.map (cnR 0)),.val (.int .i64 count)]]⟩,.live ⟨16,50,[cnR 0 c]⟩])
         (fun k=>k≤i∧ck c (l.take k)=false) (fun k=>i - k) 0 ⟨Nat.zero_le _,rfl⟩ ?_ ?_
        ·(refine qcv hB [(1,1),(2,2)] [(0,0)] [] ?_;repeat' (with_reducible first|exact trivial|refine And.intro ?_ ?_))
         all_goals first|rfl|(exact ao)|exact RowsRen.one (lu rfl c)|trace_state
        ·rintro E k ⟨hk,hno⟩ hE
         have wk:=IntWalk.i64_in ((k:Int) + 1) (by omega)
         by_cases hkt:k < i
         ·obtain ⟨d,hdk⟩ : ∃ p,l[k]?=some p:=⟨_,List.getElem?_eq_getElem (by omega)⟩
          have hrowd:(l.map (cnR 0))[(k:Int).toNat]?=some (cnR 0 d):=by simp [hdk]
          have hse:ck c (l.take (k + 1))=(d.ip == c.ip && d.pp == c.pp):=by
           rw [bj hdk]
           have:ck c (l.take k ++ [d])=(ck c (l.take k) || (d.ip == c.ip && d.pp == c.pp)):=by unfold ck;simp
           rw [this,hno,Bool.false_or]
          obtain ⟨u1,hu1⟩ : ∃ b,(d.ip == c.ip)=b:=⟨_,rfl⟩
          obtain ⟨u2,hu2⟩ : ∃ b,(d.pp == c.pp)=b:=⟨_,rfl⟩
          rw [hu1,hu2] at hse
          by_cases hsame:(u1 && u2)=true
          ·rw [hsame] at hse
           have hb0:b=false:=by
            rw [← hgo2]
            have:ck c (l.take i)=true:=by
             unfold ck at hse ⊢
             rw [List.any_eq_true] at hse ⊢
             obtain ⟨x,hx,hx2⟩:=hse
             refine ⟨x,?_,hx2⟩
             have:l.take (k + 1)=(l.take i).take (k + 1):=by rw [List.take_take,Nat.min_eq_left (by omega)]
             rw [this] at hx
             exact List.mem_of_mem_take hx
            rw [this];rfl
           rw [hb0] at hE
           rw [Bool.and_eq_true] at hsame
           obtain ⟨rfl,rfl⟩:=hsame
           subst hE
           ((conv=>whnf);(repeat' ((first|refine gT ?_|((with_reducible refine ai ?_ ?_);focus (simp [hkt];done))|((with_reducible refine aj ?_ ?_);focus (simp [hkt];done))|(with_reducible refine ab (fun _=>?_) (fun _=>?_))|(refine ak (idxL rfl rfl rfl rfl rfl rfl (by omega) hrowd) ?_))<;>(conv=>whnf))))
           (refine qcv hB [] [(0,0)] [] ?_;repeat' (with_reducible first|exact trivial|refine And.intro ?_ ?_))
          ·have hsame:(u1 && u2)=false:=by simpa using hsame
           rw [hsame] at hse
           have hu:(d.ip == c.ip)=false∨(d.ip == c.ip)=true∧(d.pp == c.pp)=false:=by
            rw [hu1,hu2];cases u1<;>cases u2<;>simp_all
           clear hu1 hu2
           subst hE
           rcases hu with hu1|⟨hu1,hu2⟩
           all_goals
            ((conv=>whnf);(repeat' ((first|refine gT ?_|((with_reducible refine ai ?_ ?_);focus (simp [hkt];done))|((with_reducible refine aj ?_ ?_);focus (simp [hkt];done))|(with_reducible refine ab (fun _=>?_) (fun _=>?_))|(refine ak (idxL rfl rfl rfl rfl rfl rfl (by omega) hrowd) ?_))<;>(conv=>whnf))))
            refine ⟨k + 1,⟨by omega,hse⟩,by omega,?_⟩
            (refine qcv hB [(1,1),(2,2)] [(0,0)] [] ?_;repeat' (with_reducible first|exact trivial|refine And.intro ?_ ?_))
            all_goals first|rfl|(simp [wk];done)|(exact ao)|exact RowsRen.one (lu rfl c)|trace_state
         ·have e:k=i:=by omega
          subst e
          rw [hno,Bool.not_false,Bool.true_and] at hgo2
          subst hE
          ((conv=>whnf);(repeat' ((first|refine gT ?_|((with_reducible refine ai ?_ ?_);focus (simp [hkt];done))|((with_reducible refine aj ?_ ?_);focus (simp [hkt];done))|(with_reducible refine ab (fun _=>?_) (fun _=>?_)))<;>(conv=>whnf))))
          refine ⟨k + 1,⟨by omega,fun _=>by unfold ep;simpa [List.getD,hck] using hlk,hgo2⟩,by omega,?_⟩
          (refine qcv hB [(1,1)] [(0,0)] [] ?_;repeat' (with_reducible first|exact trivial|refine And.intro ?_ ?_))
          all_goals first|rfl|(simp [w];done)|(exact ao)|trace_state
     ·have e:i=l.length:=by omega
      subst e
      rw [List.drop_of_length_le (Nat.le_refl _),bN] at hgo
      subst hgo
      subst hE
      ((conv=>whnf);(repeat' ((first|refine gT ?_|((with_reducible refine ai ?_ ?_);focus (simp [hlt];done))|((with_reducible refine aj ?_ ?_);focus (simp [hlt];done))|(with_reducible refine ab (fun _=>?_) (fun _=>?_)))<;>(conv=>whnf))))
      (refine qcv hB [] [(0,0)] [] ?_;repeat' (with_reducible first|exact trivial|refine And.intro ?_ ?_))
 ·have g8:decide (8 < ((l.map (cnR 0)).length:Int))=true:=by simp;omega
  rw [show decide (l.length≤8)=false by simpa using h8,Bool.false_and,Bool.and_false]
  refine ACallL.of_ev af Tryz.func14 rfl (fun a w=>Tryz.call14 a w) (congrArg Array.toList Tryz.results14) Tryz.ntmps14 fun B hB=>?_
  ((conv=>whnf);(repeat' ((first|refine gT ?_|((with_reducible refine ai ?_ ?_);focus (simp;done))|((with_reducible refine aj ?_ ?_);focus (simp;done))|(with_reducible refine ab (fun _=>?_) (fun _=>?_))|((with_reducible refine qcp (cN) ?_);refine pT ?_))<;>(conv=>whnf))))
  (refine qcv hB [] [(0,0)] [] ?_;repeat' (with_reducible first|exact trivial|refine And.intro ?_ ?_))
def idxJ:Option Nat→Int
 | some i=>i
 | none => -1
theorem nL {p:Cn→Bool} {l:List Cn} {k:Nat} {c:Cn} (h : ∀ j d,j < k→l[j]?=some d→p d=false) (hk:l[k]?=some c) (hc:p c=true):l.findIdx? p=some k:=by
 obtain ⟨hlt,e⟩:=List.getElem?_eq_some_iff.1 hk
 rw [List.findIdx?_eq_some_iff_getElem]
 refine ⟨hlt,by rw [e];exact hc,fun j hj=>?_⟩
 have:=h j l[j] hj (List.getElem?_eq_getElem (by omega))
 rw [this]
 decide
theorem q7 {p:Cn→Bool} {l:List Cn} (h : ∀ j d,j < l.length→l[j]?=some d→p d=false):l.findIdx? p=none:=by
 rw [List.findIdx?_eq_none_iff]
 intro d hd
 obtain ⟨j,hj⟩:=List.getElem?_of_mem hd
 exact h j d (List.getElem?_eq_some_iff.1 hj).1 hj
theorem eW (h:Ho) (link:Int) (hl:h.conns.length≤100000):ACallL Tryz.prog 50 [.agg (hoR h),.val (.int .i64 link)] [.perm] (.val (.int .i64 (idxJ (h.at_ link)))) [.perm]:=by
 obtain ⟨l,count⟩:=h
 have px:=aQ l
 have ll:(l.map (cnR 0)).length=l.length:=by simp
 unfold Ho.at_
 dsimp only [hoR] at hl ⊢
 refine ACallL.of_ev af Tryz.func50 rfl (fun a w=>Tryz.call50 a w) (congrArg Array.toList Tryz.results50) Tryz.ntmps50 fun B hB=>?_
 ((conv=>whnf);(repeat' ((first|refine gT ?_|(with_reducible refine ab (fun _=>?_) (fun _=>?_)))<;>(conv=>whnf))))
 refine qAW.loopE af (X:=Nat) (fun k=>ap 22 [(1,.val (.int .i64 link)),(2,.ptr 1 0 0),(5,.val (.int .i64 k))]) (fun k=>[.perm,.live ⟨2,24,[[.list 0 16 (l.map (cnR 0)),.val (.int .i64 count)]]⟩])
  (fun k=>k≤l.length ∧ ∀ j d,j < k→l[j]?=some d→(d.link == link)=false) (fun k=>l.length - k) 0 ⟨Nat.zero_le _,fun j d h=>by omega⟩ ?_ ?_
 ·(refine qcv hB [(1,1)] [(0,0)] [] ?_;repeat' (with_reducible first|exact trivial|refine And.intro ?_ ?_))
  all_goals first|rfl|(exact ao)
 ·rintro E k ⟨hk,hno⟩ hE
  by_cases hlt:k < l.length
  ·obtain ⟨c,hc⟩ : ∃ p,l[k]?=some p:=⟨_,List.getElem?_eq_getElem hlt⟩
   have hrow:(l.map (cnR 0))[(k:Int).toNat]?=some (cnR 0 c):=by simp [hc]
   have w:=IntWalk.i64_in (k + 1) (by omega)
   cases hb:(c.link == link) with
   | true =>
     have hf:=nL hno hc hb
     rw [hf] at hE
     subst hE
     ((conv=>whnf);(repeat' ((first|refine gT ?_|((with_reducible refine ai ?_ ?_);focus (simp [hlt];done))|((with_reducible refine aj ?_ ?_);focus (simp [hlt];done))|(with_reducible refine ab (fun _=>?_) (fun _=>?_))|(refine ak (idxL rfl rfl rfl rfl rfl rfl (by omega) hrow) ?_))<;>(conv=>whnf))))
     (refine qcv hB [] [(0,0)] [] ?_;repeat' (with_reducible first|exact trivial|refine And.intro ?_ ?_))
     all_goals rfl
   | false =>
     subst hE
     ((conv=>whnf);(repeat' ((first|refine gT ?_|((with_reducible refine ai ?_ ?_);focus (simp [hlt];done))|((with_reducible refine aj ?_ ?_);focus (simp [hlt];done))|(with_reducible refine ab (fun _=>?_) (fun _=>?_))|(refine ak (idxL rfl rfl rfl rfl rfl rfl (by omega) hrow) ?_))<;>(conv=>whnf))))
     refine ⟨k + 1,⟨by omega,fun j d hj hd=>?_⟩,by omega,?_⟩
     ·by_cases e:j=k
      ·subst e;rw [hc] at hd;cases hd;exact hb
      ·exact hno j d (by omega) hd
     ·(refine qcv hB [(1,1)] [(0,0)] [] ?_;repeat' (with_reducible first|exact trivial|refine And.intro ?_ ?_))
      all_goals first|rfl|(simp [w];done)|(exact ao)
  ·have e:k=l.length:=by omega
   subst e
   have hf:=q7 hno
   rw [hf] at hE
   subst hE
   ((conv=>whnf);(repeat' ((first|refine gT ?_|((with_reducible refine ai ?_ ?_);focus (simp [hlt];done))|((with_reducible refine aj ?_ ?_);focus (simp [hlt];done))|(with_reducible refine ab (fun _=>?_) (fun _=>?_)))<;>(conv=>whnf))))
   (refine qcv hB [] [(0,0)] [] ?_;repeat' (with_reducible first|exact trivial|refine And.intro ?_ ?_))
   all_goals rfl
abbrev aT (c o p d s e h t:Nat) (y:Hs):List AV:=[.glist c 16 (y.h.conns.map (cnP o p d)),.val (.int .i64 y.h.count),.glist s 8 (y.out.map (snR e)),.glist h 3 (y.heard.map (hdR t))]
abbrev hsO (row:List AV):Own := .live ⟨4,58,[row]⟩
def putX (x:Hs) (i:Nat) (y:Stp):Hs:=⟨x.h.put i y.c,x.out ++ toS y.c.ip y.out,x.heard⟩
theorem s9 (h:Ho) (i:Nat) (c:Cn) (hi:i < h.conns.length):(h.put i c).conns=h.conns.take i ++ ((bif c.st == 0 then [] else [c]) ++ h.conns.drop (i + 1)):=by
 unfold Ho.put
 cases (c.st == 0)
 ·simp only [cond_false,List.set_eq_take_append_cons_drop,if_pos hi];rfl
 ·simp only [cond_true,List.eraseIdx_eq_take_drop_succ];rfl
section
variable {L I F:Prs} {h:Hp}
theorem Ren.glR {b b' sz:Nat} {rows rows' : List (List AV)} (hb:I.has b b' = true) (hr:RowsRen (qOf L I F) h rows rows'):Ren (qOf L I F) h (.glist b sz rows) (.glist b' sz rows') :=
 .glist _ _ _ _ _ ((Prs.has_iff I _ _).1 hb) hr.1 hr.2.1 hr.2.2
theorem aG {r r' : Nat} (h0:I.has r r' = true) (l:List Hd):RowsRen (qOf L I F) h (l.map (hdR r)) (l.map (hdR r')) :=
 RowsRen.mapF l _ _ fun x _ => .cons (.val _) (.cons (Ren.ll h0 _) (.cons (.val _) .nil))
theorem aw {c s hh c' s' h' : Nat} {count:Int} {C C' S S' D D' : List (List AV)} (h0:I.has c c' = true) (h1:I.has s s' = true) (h2:I.has hh h' = true) (r1:RowsRen (qOf L I F) h C C') (r2:RowsRen (qOf L I F) h S S') (r3:RowsRen (qOf L I F) h D D') :
 RowsRen (qOf L I F) h [[.glist c 16 C,.val (.int .i64 count),.glist s 8 S,.glist hh 3 D]] [[.glist c' 16 C', .val (.int .i64 count),.glist s' 8 S', .glist h' 3 D']] :=
 RowsRen.one (.cons (Ren.glR h0 r1) (.cons (.val _) (.cons (Ren.glR h1 r2) (.cons (Ren.glR h2 r3) .nil))))
end
abbrev gk (x:Hs) (y:Stp):List Own:=[.perm,hsO (aT 2 3 4 5 6 7 8 9 x),.uniq,.uniq,.uniq,.uniq,.uniq,.uniq,.perm,.perm,rsO (rsN 11 12 13 14 15 16 y),.uniq,.uniq,.uniq,.perm,.perm,.uniq]
abbrev gb (x:Hs):List Own:=[.perm,hsO (aT 17 18 19 20 21 22 8 9 x),.dead,.dead,.dead,.dead,.dead,.dead,.perm,.perm,.dead,.dead,.dead,.dead,.perm,.perm,.dead,.uniq,.uniq,.uniq,.uniq,.uniq,.uniq]
theorem gD (x:Hs) (i:Nat) (y:Stp) (hi:i < x.h.conns.length) (hl:x.h.conns.length≤1000) (hc : ∀ c∈x.h.conns,aA c) (ho:x.out.length + y.out.length≤1000000) :
 ACallL Tryz.prog 52 [.ptr 1 0 0,.val (.int .i64 i),.ptr 10 0 0] (gk x y) (.tup []) (gb (putX x i y)):=by
 obtain ⟨⟨l,count⟩,S,D⟩:=x
 obtain ⟨c,yo,told⟩:=y
 unfold putX
 dsimp only [gk,gb,aT,rsN] at hi hl hc ho ⊢
 have hq:=s9 ⟨l,count⟩ i c hi
 have hcount:(Ho.put ⟨l,count⟩ i c).count=count:=rfl
 rw [hq,hcount]
 dsimp only
 have cA:=gx (l.take i) (by simp;omega) (fun d hd=>hc d (List.mem_of_mem_take hd))
 have cB:=gx (l.drop (i + 1)) (by simp;omega) (fun d hd=>hc d (List.mem_of_mem_drop hd))
 have lP:(((l.map (cnP 3 4 5)).length:Nat):Int)=l.length:=by simp
 have wi:IntKind.i64.wrap ((i:Int) + 1)=i + 1:=IntWalk.i64_in _ (by omega)
 have hcb1:0≤(none:Option Int).getD 0∧(none:Option Int).getD 0≤(some (i:Int)).getD ((l.map (cnP 3 4 5)).length:Int)∧(some (i:Int)).getD ((l.map (cnP 3 4 5)).length:Int)≤(none:Option Int).getD ((l.map (cnP 3 4 5)).length:Int)∧(none:Option Int).getD ((l.map (cnP 3 4 5)).length:Int)≤((l.map (cnP 3 4 5)).length:Int)∧((none:Option Int)=none∨(some (i:Int))≠none):=by
  rw [Option.getD_some,Option.getD_none,Option.getD_none,lP];exact ⟨by omega,by omega,by omega,by omega,.inl rfl⟩
 have hsl1:((l.map (cnP 3 4 5)).drop ((none:Option Int).getD 0).toNat).take ((some (i:Int)).getD ((l.map (cnP 3 4 5)).length:Int) - (none:Option Int).getD 0).toNat=(l.take i).map (cnP 3 4 5):=by
  rw [Option.getD_some,Option.getD_none,List.map_take];simp
 have hcb2:0≤(some (IntKind.i64.wrap ((i:Int) + 1))).getD 0∧(some (IntKind.i64.wrap ((i:Int) + 1))).getD 0≤(none:Option Int).getD ((l.map (cnP 3 4 5)).length:Int)∧(none:Option Int).getD ((l.map (cnP 3 4 5)).length:Int)≤(none:Option Int).getD ((l.map (cnP 3 4 5)).length:Int)∧(none:Option Int).getD ((l.map (cnP 3 4 5)).length:Int)≤((l.map (cnP 3 4 5)).length:Int)∧((none:Option Int)=none∨(none:Option Int)≠none):=by
  rw [Option.getD_some,Option.getD_none,wi,lP];exact ⟨by omega,by omega,by omega,by omega,.inl rfl⟩
 have hsl2:((l.map (cnP 3 4 5)).drop ((some (IntKind.i64.wrap ((i:Int) + 1))).getD 0).toNat).take ((none:Option Int).getD ((l.map (cnP 3 4 5)).length:Int) - (some (IntKind.i64.wrap ((i:Int) + 1))).getD 0).toNat=(l.drop (i + 1)).map (cnP 3 4 5):=by
  rw [Option.getD_some,Option.getD_none,wi,lP,List.map_drop,show ((i:Int) + 1).toNat=i + 1 by omega,List.take_of_length_le (by simp;omega)]
 refine ACallL.of_ev af Tryz.func52 rfl (fun a w=>Tryz.call52 a w) (congrArg Array.toList Tryz.results52) Tryz.ntmps52 fun B hB=>?_
 ((conv=>whnf);(repeat' ((first|refine gT ?_|((with_reducible refine ai ?_ ?_);focus (simp;done))|((with_reducible refine aj ?_ ?_);focus (simp;done))|(with_reducible refine ab (fun _=>?_) (fun _=>?_)))<;>(conv=>whnf))))
 refine qAW.loopE af (X:=Nat) (fun k=>ap 75 [(0,.ptr 1 0 0),(1,.val (.int .i64 i)),(2,.ptr 10 0 0),(6,.val (.int .i64 k))])
  (fun k=>[.perm,hsO [.glist 2 16 (l.map (cnP 3 4 5)),.val (.int .i64 count),.glist 17 8 (S.map (snR 7) ++ (toS c.ip (yo.take k)).map (snR 16)),.glist 8 3 (D.map (hdR 9))],.uniq,.uniq,.uniq,.uniq,.dead,.uniq,.perm,.perm,rsO (rsN 11 12 13 14 15 16 ⟨c,yo,told⟩),.uniq,.uniq,.uniq,.perm,.perm,.uniq,.uniq])
  (fun k=>k≤yo.length) (fun k=>yo.length - k) 0 (Nat.zero_le _) ?_ ?_
 ·(refine qcv hB [(1,1),(10,10)] [(0,0),(2,2),(3,3),(4,4),(5,5),(6,17),(7,7),(8,8),(9,9),(11,11),(12,12),(13,13),(14,14),(15,15),(16,16)] [] ?_;repeat' (with_reducible first|exact trivial|refine And.intro ?_ ?_))
  all_goals first|rfl|exact aw rfl rfl rfl (aC rfl rfl rfl _) (RowsRen.castR (b:=S.map (snR 7)) (by simp [toS]) (ay rfl _)) (aG rfl _)|(exact ao)|trace_state
 ·rintro E k hk hE
  have w:=IntWalk.i64_in ((k:Int) + 1) (by omega)
  by_cases hlt:k < yo.length
  ·obtain ⟨m,hm⟩ : ∃ p,yo[k]?=some p:=⟨_,List.getElem?_eq_getElem hlt⟩
   have hrow:(yo.map (sgR 16))[(k:Int).toNat]?=some (sgR 16 m):=by simp [hm]
   have ly:((yo.map (sgR 16)).length:Int)=yo.length:=by simp
   have hsz:(S.map (snR 7) ++ (toS c.ip (yo.take k)).map (snR 16)).length + 1≤1000001:=by unfold toS;simp;omega
   have hap:S.map (snR 7) ++ (toS c.ip (yo.take k)).map (snR 16) ++ [snR 16 (c.ip,m)]=S.map (snR 7) ++ (toS c.ip (yo.take (k + 1))).map (snR 16):=by
    rw [bj hm];unfold toS;simp
   subst hE
   ((conv=>whnf);(repeat' ((first|refine gT ?_|((with_reducible refine ai ?_ ?_);focus (simp [hlt,ly];done))|((with_reducible refine aj ?_ ?_);focus (simp [hlt,ly];done))|(with_reducible refine ab (fun _=>?_) (fun _=>?_))|(refine ak (idxG rfl rfl rfl rfl rfl rfl (by omega) hrow) ?_)|(refine ak (apG' (nb:=80) rfl rfl rfl rfl rfl rfl rfl rfl rfl rfl ⟨Nat.zero_lt_succ _,Nat.zero_lt_succ _,rfl⟩ rfl (Nat.le_trans (Nat.mul_le_mul_right _ hsz) (by decide)) hap) ?_))<;>(conv=>whnf))))
   refine ⟨k + 1,by omega,by omega,?_⟩
   (refine qcv hB [(1,1),(10,10)] [(0,0),(2,2),(3,3),(4,4),(5,5),(19,17),(7,7),(8,8),(9,9),(11,11),(12,12),(13,13),(14,14),(15,15),(16,16)] [] ?_;repeat' (with_reducible first|exact trivial|refine And.intro ?_ ?_))
   all_goals first|rfl|(simp [w];done)|exact aw rfl rfl rfl (aC rfl rfl rfl _) (RowsRen.app (ay rfl _) (ay rfl _)) (aG rfl _)|(exact ao)|trace_state
  ·have ly:((yo.map (sgR 16)).length:Int)=yo.length:=by simp
   have e:yo.take k=yo:=List.take_of_length_le (by omega)
   rw [e]
   cases hs0:(c.st == 0) with
   | false =>
     have hs1:(c.st != 0)=true:=by rw [bne,hs0];rfl
     rw [hs0,cond_false] at hE
     subst hE
     have hszA:((l.take i).map (cnG 19 20 21)).length + 1≤2000:=by simp;omega
     have hszB:((l.take i).map (cnG 19 20 21) ++ [cnP 11 12 13 c]).length + ((l.drop (i + 1)).map (cnG 25 26 27)).length≤3000:=by simp;omega
     ((conv=>whnf);(repeat' ((first|refine gT ?_|((with_reducible refine ai ?_ ?_);focus (simp [hlt,ly];done))|((with_reducible refine aj ?_ ?_);focus (simp [hlt,ly];done))|(with_reducible refine ab (fun _=>?_) (fun _=>?_))|(refine ak (slG' rfl rfl rfl rfl rfl rfl rfl rfl hcb1 hsl1) ?_)|(refine ak (slG' rfl rfl rfl rfl rfl rfl rfl rfl hcb2 hsl2) ?_)|(((with_reducible refine qco (cA) [] [(0,0),(0,2),(0,3),(0,4),(0,5)] [] [(1,18),(2,19),(3,20),(4,21)] [(18,.uniq),(19,.uniq),(20,.uniq),(21,.uniq)] (.glist 18 16 ((l.take i).map (cnG 19 20 21))) ?_);refine sT ?_))|(refine ak (apG (nb:=160) rfl rfl rfl rfl rfl rfl rfl rfl rfl rfl ⟨Nat.zero_lt_succ _,Nat.zero_lt_succ _,rfl⟩ rfl (Nat.le_trans (Nat.mul_le_mul_right _ hszA) (by decide))) ?_)|(((with_reducible refine qco (cB) [] [(0,0),(0,2),(0,3),(0,4),(0,5)] [] [(1,24),(2,25),(3,26),(4,27)] [(24,.uniq),(25,.uniq),(26,.uniq),(27,.uniq)] (.glist 24 16 ((l.drop (i + 1)).map (cnG 25 26 27))) ?_);refine sT ?_))|(refine ak (apG (nb:=160) rfl rfl rfl rfl rfl rfl rfl rfl rfl rfl ⟨Nat.zero_lt_succ _,Nat.zero_lt_succ _,rfl⟩ (iv 25 26 27 _) (Nat.le_trans (Nat.mul_le_mul_right _ hszB) (by decide))) ?_))<;>(conv=>whnf))))
     (refine qcv hB [(1,1)] [(0,0),(8,8),(9,9),(14,14),(15,15),(28,17),(19,18),(11,18),(25,18),(20,19),(12,19),(26,19),(21,20),(13,20),(27,20),(17,21),(7,22),(16,22)] [] ?_;repeat' (with_reducible first|exact trivial|refine And.intro ?_ ?_))
     all_goals first|rfl|exact aw rfl rfl rfl (RowsRen.castR (b:=((l.take i).map (cnP 18 19 20) ++ [cnP 18 19 20 c]) ++ (l.drop (i + 1)).map (cnP 18 19 20)) (by simp) (RowsRen.app (RowsRen.app (aS rfl rfl rfl _) (RowsRen.one (qN rfl rfl rfl _))) (aS rfl rfl rfl _))) (RowsRen.castR (b:=S.map (snR 22) ++ (toS c.ip yo).map (snR 22)) (by simp) (RowsRen.app (ay rfl _) (ay rfl _))) (aG rfl _)|trace_state
   | true =>
     have hs1:(c.st != 0)=false:=by rw [bne,hs0];rfl
     rw [hs0,cond_true] at hE
     subst hE
     have hszC:((l.take i).map (cnG 19 20 21)).length + ((l.drop (i + 1)).map (cnG 23 24 25)).length≤3000:=by simp;omega
     ((conv=>whnf);(repeat' ((first|refine gT ?_|((with_reducible refine ai ?_ ?_);focus (simp [hlt,ly];done))|((with_reducible refine aj ?_ ?_);focus (simp [hlt,ly];done))|(with_reducible refine ab (fun _=>?_) (fun _=>?_))|(refine ak (slG' rfl rfl rfl rfl rfl rfl rfl rfl hcb1 hsl1) ?_)|(refine ak (slG' rfl rfl rfl rfl rfl rfl rfl rfl hcb2 hsl2) ?_)|(((with_reducible refine qco (cA) [] [(0,0),(0,2),(0,3),(0,4),(0,5)] [] [(1,18),(2,19),(3,20),(4,21)] [(18,.uniq),(19,.uniq),(20,.uniq),(21,.uniq)] (.glist 18 16 ((l.take i).map (cnG 19 20 21))) ?_);refine sT ?_))|(((with_reducible refine qco (cB) [] [(0,0),(0,2),(0,3),(0,4),(0,5)] [] [(1,22),(2,23),(3,24),(4,25)] [(22,.uniq),(23,.uniq),(24,.uniq),(25,.uniq)] (.glist 22 16 ((l.drop (i + 1)).map (cnG 23 24 25))) ?_);refine sT ?_))|(refine ak (apG (nb:=160) rfl rfl rfl rfl rfl rfl rfl rfl rfl rfl ⟨Nat.zero_lt_succ _,Nat.zero_lt_succ _,rfl⟩ (iv 23 24 25 _) (Nat.le_trans (Nat.mul_le_mul_right _ hszC) (by decide))) ?_))<;>(conv=>whnf))))
     (refine qcv hB [(1,1)] [(0,0),(8,8),(9,9),(14,14),(15,15),(26,17),(19,18),(23,18),(20,19),(24,19),(21,20),(25,20),(17,21),(7,22),(16,22)] [] ?_;repeat' (with_reducible first|exact trivial|refine And.intro ?_ ?_))
     all_goals first|rfl|exact aw rfl rfl rfl (RowsRen.castR (b:=(l.take i).map (cnP 18 19 20) ++ (l.drop (i + 1)).map (cnP 18 19 20)) (by simp) (RowsRen.app (aS rfl rfl rfl _) (aS rfl rfl rfl _))) (RowsRen.castR (b:=S.map (snR 22) ++ (toS c.ip yo).map (snR 22)) (by simp) (RowsRen.app (ay rfl _) (ay rfl _))) (aG rfl _)|trace_state
set_option maxHeartbeats 1000000
theorem gO {p:Prop} (h:p:=by first|((first|rfl|(refine RowsRen.one ?_;(repeat (refine Cells.cons ?_ ?_;focus (first|exact .val _|exact Ren.ll rfl _|exact Ren.gg rfl _|exact Ren.g2 rfl _|exact Ren.vnil _ _|exact Ren.vgnil _ _|exact Ren.sll rfl rfl _|exact Ren.sllN rfl rfl rfl rfl|exact Ren.sll1 rfl rfl rfl rfl|exact Ren.pll rfl rfl _|fail)));exact Cells.nil)|exact dr rfl _|exact br rfl _|exact aH _);done)|fail):p:=h
abbrev ackX (x:Stp) (ys:List Int) (m:Sg):Stp := { x with c := { x.c with out:=ys,una:=m.ack,tm:=tm0 } }
theorem xt (x:Stp) (m:Sg) (hs:x.out.length≤1000000) (ho:x.c.out.length≤8192) (hm:m.data.length≤1460) :
 ACallL Tryz.prog 109 [.ptr 1 0 0,.agg (sgR 0 m)] [.perm,rsO (rsN 2 3 4 5 6 7 x),.uniq,.perm,.perm,.perm,.uniq,.uniq]
  (.val (.bool (x.ack m).2)) [.perm,rsO (rsN 10 3 4 5 8 9 (x.ack m).1),.dead,.perm,.perm,.perm,.dead,.dead,.uniq,.uniq,.uniq]:=by
 have px:=al m.data
 have lo:(x.c.out.map bR).length=x.c.out.length:=by simp
 have cS:=lJ x (by omega)
 have hw:=bY m.ack x.c.una
 unfold Stp.ack
 by_cases hd:ah m.ack x.c.una≤0
 ·have hd1:decide (ah m.ack x.c.una≤0)=true:=by simpa using hd
  have hd2:decide (0 < ah m.ack x.c.una)=false:=by simpa using hd
  dsimp only [rsN,spL,sgR,sgL] at cS ⊢
  refine ACallL.of_ev af Tryz.func109 rfl (fun a w=>Tryz.call109 a w) (congrArg Array.toList Tryz.results109) Tryz.ntmps109 fun B hB=>?_
  ((conv=>whnf);(repeat' ((first|refine gT ?_|(with_reducible refine ab (fun _=>?_) (fun _=>?_))|((with_reducible refine qcp (gn _ _) ?_);refine pT ?_)|(((with_reducible refine qco (cS) [(1,1)] [(0,0),(2,2),(3,3),(4,4),(5,5),(6,6),(7,7)] [] [(8,9),(9,10)] [(1,rsO (rsN 2 3 4 5 9 10 x.acks)),(6,.dead),(7,.dead),(9,.uniq),(10,.uniq)] (.tup []) ?_);refine sT ?_))|(refine ak (apG (nb:=72) rfl rfl rfl rfl rfl rfl rfl rfl rfl rfl (by decide) rfl (by simp;omega)) ?_))<;>(conv=>whnf))))
  all_goals as_aux_lemma =>
   (try simp only [bne,Bool.not_eq_true', Bool.not_eq_false'] at *)
   (simp only [*, cond_true,cond_false,Bool.and_true,Bool.true_and,Bool.and_false,Bool.false_and])
   first|((refine qcv hB [(1,1)] [(0,0),(3,3),(4,4),(5,5),(10,8),(7,9),(2,10)] [] ?_;repeat' (with_reducible first|exact trivial|refine And.intro ?_ ?_)))|((refine qcv hB [(1,1)] [(0,0),(3,3),(4,4),(5,5),(6,8),(7,9),(9,10)] [] ?_;repeat' (with_reducible first|exact trivial|refine And.intro ?_ ?_)))|((refine qcv hB [(1,1)] [(0,0),(3,3),(4,4),(5,5),(6,8),(7,9),(2,10)] [] ?_;repeat' (with_reducible first|exact trivial|refine And.intro ?_ ?_)))|((refine qcv hB [(1,1)] [(0,0),(3,3),(4,4),(5,5),(9,8),(10,9),(2,10)] [] ?_;repeat' (with_reducible first|exact trivial|refine And.intro ?_ ?_)))
   all_goals (try exact gO)
 ·have hd1:decide (ah m.ack x.c.una≤0)=false:=by simpa using hd
  have hd2:decide (0 < ah m.ack x.c.una)=true:=by simp;omega
  obtain ⟨ys,hys⟩ : ∃ ys,x.c.out.drop (min (ah m.ack x.c.una) x.c.out.length).toNat=ys:=⟨_,rfl⟩
  have hyl:ys.length≤8192:=by rw [← hys];simp;omega
  have hcb:0≤(some (min (ah m.ack x.c.una) ((x.c.out.map bR).length:Int))).getD 0∧(some (min (ah m.ack x.c.una) ((x.c.out.map bR).length:Int))).getD 0≤(none:Option Int).getD ((x.c.out.map bR).length:Int)∧(none:Option Int).getD ((x.c.out.map bR).length:Int)≤(none:Option Int).getD ((x.c.out.map bR).length:Int)∧(none:Option Int).getD ((x.c.out.map bR).length:Int)≤((x.c.out.map bR).length:Int)∧((none:Option Int)=none∨(none:Option Int)≠none):=by
   simp only [Option.getD_some,Option.getD_none]
   exact ⟨by omega,by omega,by omega,by omega,.inl trivial⟩
  have hsl:((x.c.out.map bR).drop ((some (min (ah m.ack x.c.una) ((x.c.out.map bR).length:Int))).getD 0).toNat).take ((none:Option Int).getD ((x.c.out.map bR).length:Int) - (some (min (ah m.ack x.c.una) ((x.c.out.map bR).length:Int))).getD 0).toNat=ys.map bR:=by
   simp only [Option.getD_some,Option.getD_none]
   rw [← hys,lo,List.map_drop]
   exact List.take_of_length_le (by simp;omega)
  have hac:x.c.ackC m = { x.c with win:=m.win,out:=ys,una:=m.ack,tm:=tm0 }:=by unfold Cn.ackC;rw [hys]
  have cY:=bK ys (by omega)
  have cC:=jo (ackX x ys m)
  rw [hac]
  dsimp only [rsN,spL,sgR,sgL] at cS cC ⊢
  refine ACallL.of_ev af Tryz.func109 rfl (fun a w=>Tryz.call109 a w) (congrArg Array.toList Tryz.results109) Tryz.ntmps109 fun B hB=>?_
  ((conv=>whnf);(repeat' ((first|refine gT ?_|(with_reducible refine ab (fun _=>?_) (fun _=>?_))|((with_reducible refine qcp (gn _ _) ?_);refine pT ?_)|((with_reducible refine qcp (oF _) ?_);refine pT ?_)|((with_reducible refine qcp (ej _) ?_);refine pT ?_)|(refine qCall.rsent rfl ?_)|(refine ak (slL' rfl rfl rfl rfl rfl rfl rfl rfl hcb hsl) ?_)|(((with_reducible refine qcf (fun r=>gL r ys) (cY) [(0,2)] [] ?_);refine sT ?_))|(((with_reducible refine qco (cS) [(1,1)] [(0,0),(2,2),(3,3),(4,4),(5,5),(6,6),(7,7)] [] [(8,9),(9,10)] [(1,rsO (rsN 2 3 4 5 9 10 x.acks)),(6,.dead),(7,.dead),(9,.uniq),(10,.uniq)] (.tup []) ?_);refine sT ?_))|(((with_reducible refine qco (cC) [(1,1)] [(0,0),(2,9),(3,3),(4,4),(5,5),(6,6),(7,7)] [] [] [(1,rsO (rsN 9 3 4 5 6 7 (ackX x ys m).shut))] (.tup []) ?_);refine sT ?_))|(refine ak (apG (nb:=72) rfl rfl rfl rfl rfl rfl rfl rfl rfl rfl (by decide) rfl (by simp;omega)) ?_))<;>(conv=>whnf))))
  all_goals as_aux_lemma =>
   (try simp only [bne,Bool.not_eq_true', Bool.not_eq_false'] at *)
   (simp only [*, cond_true,cond_false,Bool.and_true,Bool.true_and,Bool.and_false,Bool.false_and])
   first|((refine qcv hB [(1,1)] [(0,0),(3,3),(4,4),(5,5),(10,8),(7,9),(2,10)] [] ?_;repeat' (with_reducible first|exact trivial|refine And.intro ?_ ?_)))|((refine qcv hB [(1,1)] [(0,0),(3,3),(4,4),(5,5),(6,8),(7,9),(9,10)] [] ?_;repeat' (with_reducible first|exact trivial|refine And.intro ?_ ?_)))|((refine qcv hB [(1,1)] [(0,0),(3,3),(4,4),(5,5),(6,8),(7,9),(2,10)] [] ?_;repeat' (with_reducible first|exact trivial|refine And.intro ?_ ?_)))|((refine qcv hB [(1,1)] [(0,0),(3,3),(4,4),(5,5),(9,8),(10,9),(2,10)] [] ?_;repeat' (with_reducible first|exact trivial|refine And.intro ?_ ?_)))
   all_goals (try exact gO)
theorem tn (n s:Int) (ps:List Pt) (xs:List Int) (hm:mayB n ps=true) (hs:0≤s∧s≤4294967295) (hx:xs.length≤65536) :
 ACallL Tryz.prog 110 [.agg [.val (.int .i64 n),.list 1 2 (ps.map (prt 2))],.val (.int .i64 s),bL 0 xs] [.perm,.uniq,.uniq]
  (.tup [.agg [.val (.int .i64 (reaS n ps s xs).1),.list 3 2 ((reaS n ps s xs).2.1.map (prt 4))],bL 5 (reaS n ps s xs).2.2]) [.perm,.dead,.dead,.uniq,.uniq,.uniq]:=by
 have cR:=wM n s ps xs (kC hm) hm hs hx _ rfl
 unfold reaS
 refine ACallL.of_q (fun a w=>Tryz.call110 a w) fun B hB=>?_
 by_cases h8:8 < (az n (winS n ps s xs) (lead (winS n ps s xs)) 2048).length
 ·rw [if_pos h8] at cR ⊢
  ((with_reducible refine qco (cR) [] [(0,0),(1,1),(2,2)] [] [(3,3),(4,4),(5,5)] [(3,.uniq),(4,.uniq),(5,.uniq)] (.tup [.agg [.val (.int .i64 n),.list 1 2 (ps.map (prt 2))],.val (.slice none 0 0)]) ?_);refine sT ?_)
  (refine qcv hB [] [(0,0),(1,3),(2,4)] [] ?_;repeat' (with_reducible first|exact trivial|refine And.intro ?_ ?_))
  all_goals first|rfl|exact br rfl _
 ·rw [if_neg h8] at cR ⊢
  obtain ⟨n2,hn2⟩ : ∃ a,wadd n (lead (winS n ps s xs))=a:=⟨_,rfl⟩
  obtain ⟨ps2,hps2⟩ : ∃ a,az n (winS n ps s xs) (lead (winS n ps s xs)) 2048=a:=⟨_,rfl⟩
  obtain ⟨t2,ht2⟩ : ∃ a,seg (winS n ps s xs) 0 (lead (winS n ps s xs))=a:=⟨_,rfl⟩
  rw [hn2,hps2,ht2] at cR
  rw [hn2,hps2,ht2]
  ((with_reducible refine qco (cR) [] [(0,0),(1,1),(2,2)] [] [(3,3),(4,4),(5,5)] [(3,.uniq),(4,.uniq),(5,.uniq)] (.tup [.agg [.val (.int .i64 n2),.list 3 2 (ps2.map (prt 4))],gL 5 t2]) ?_);refine sT ?_)
  (refine qcv hB [] [(0,0),(3,3),(4,4),(5,5)] [] ?_;repeat' (with_reducible first|exact trivial|refine And.intro ?_ ?_))
  all_goals first|rfl|exact br rfl _|exact aH _
set_option maxHeartbeats 4000000
theorem dX {p:Prop} (h:p:=by first|((first|rfl|(refine RowsRen.one ?_;(repeat (refine Cells.cons ?_ ?_;focus (first|exact .val _|exact Ren.ll rfl _|exact Ren.gg rfl _|exact Ren.g2 rfl _|exact Ren.vnil _ _|exact Ren.vgnil _ _|exact Ren.sll rfl rfl _|exact Ren.sllN rfl rfl rfl rfl|exact Ren.sll1 rfl rfl rfl rfl|exact Ren.pll rfl rfl _|fail)));exact Cells.nil)|exact dr rfl _|exact br rfl _|exact aH _);done)|fail):p:=h
theorem ul (x:Stp) (m:Sg):(x.ack m).1.out.length≤x.out.length + 1:=by
 have key : ∀ (b:Bool) (p q:Stp × Bool),p.1.out.length≤x.out.length + 1→q.1.out.length≤x.out.length + 1→(bif b then p else q).1.out.length≤x.out.length + 1:=fun b p q h1 h2=>by cases b<;>assumption
 unfold Stp.ack
 refine key _ _ _ (key _ _ _ (by simp) (by simp)) (key _ _ _ (by simp [Stp.acks,Stp.seg]) (key _ _ _ (by simp) (key _ _ _ (key _ _ _ (by simp) (key _ _ _ (by simp) (key _ _ _ (by simp) (by simp)))) (by simp))))
theorem rA (x:Stp) (m:Sg):(x.data m).out=x.out:=by
 unfold Stp.data Stp.dataFin
 cases x.c.hears<;>simp only [cond_true,cond_false]
 cases flN m.fl 1<;>simp only [cond_true,cond_false]
 ·generalize (wadd m.seq m.data.length == (x.dataIn m).c.inx)=b1
  generalize decide (0 < ((x.dataIn m).c.parts.length:Int))=b2
  generalize ((x.dataIn m).c.st == 2)=b3
  generalize ((x.dataIn m).c.st == 3)=b4
  cases b1<;>cases b2<;>cases b3<;>cases b4<;>rfl
 ·rfl
theorem u5 (s n v:Int):ACallL Tryz.prog 106 [.val (.int .i64 s),.val (.int .i64 n),.val (.int .i64 v)] [.perm] (.val (.bool (decide (woff v s < n)))) [.perm]:=by
 refine ACallL.of_ev af Tryz.func106 rfl (fun a w=>Tryz.call106 a w) (congrArg Array.toList Tryz.results106) Tryz.ntmps106 fun B hB=>?_
 ((conv=>whnf);(repeat' ((first|refine gT ?_|(with_reducible refine ab (fun _=>?_) (fun _=>?_))|((with_reducible refine qcp (ic _ _) ?_);refine pT ?_))<;>(conv=>whnf))))
 all_goals (refine qcv hB [] [(0,0)] [] ?_;repeat' (with_reducible first|exact trivial|refine And.intro ?_ ?_))
theorem wY (c:Cn) (m:Sg) (hI:CnI c) (hm:sgB m=true) (h0:(c.st == 0)=false) :
 ACallL Tryz.prog 66 [.agg (cnR 0 c),.agg (sgR 0 m)] [.perm] (.ptr 1 0 0) (rsH (c.takes m)):=by
 have px:=al c.out
 have py:=ar c.parts
 have pz:=al m.data
 obtain ⟨_,_,hseq,_,_,_,hd⟩:=jE hm
 have cB:=fG c ⟨by have:=hI.len;omega,kC hI.may⟩
 have cL:=gz m (by omega)
 have hbl:=Sg.len_bd hd
 have w:=IntWalk.i64_in (m.len - 1) (by omega)
 have hI1:=mR (x:=c.start) hI hm (show c.st≠0 by simpa using h0)
 have ho1:=ul c.start m
 have cK:=xt c.start m (by simp [Cn.start]) hI.len hd
 have cS0:=lJ c.start (by simp [Cn.start])
 have cC0:=jo c.start
 obtain ⟨⟨x1,b⟩,h1⟩ : ∃ r,c.start.ack m=r:=⟨_,rfl⟩
 rw [h1] at cK hI1 ho1
 dsimp only at cK hI1 ho1
 have cR:=tn x1.c.inx m.seq x1.c.parts m.data hI1.may hseq (by omega)
 have hI2:=jj hI1 m
 have ho2:=rA x1 m
 obtain ⟨x2,h2⟩ : ∃ r,x1.data m=r:=⟨_,rfl⟩
 rw [h2] at hI2 ho2
 have cS2:=lJ x2 (by rw [ho2];simp [Cn.start] at ho1;omega)
 have hI3:CnI x2.acks.c:=hI2
 have ho3:x2.acks.out.length=x2.out.length + 1:=by simp [Stp.acks,Stp.seg]
 obtain ⟨x3,h3⟩ : ∃ r,x2.acks=r:=⟨_,rfl⟩
 rw [h3] at cS2 hI3 ho3
 have h3' := h3
 have cP2:=fun (h:(x2.c.st == 2 || x2.c.st == 5)=true)=>jF x2 (hI2.pumpOk h) (by rw [ho2];simp [Cn.start] at ho1;omega)
 have cP3:=fun (h:(x3.c.st == 2 || x3.c.st == 5)=true)=>jF x3 (hI3.pumpOk h) (by rw [ho3,ho2];simp [Cn.start] at ho1;omega)
 obtain ⟨x4,h4⟩ : ∃ r,x2.pump=r:=⟨_,rfl⟩
 obtain ⟨x5,h5⟩ : ∃ r,x3.pump=r:=⟨_,rfl⟩
 rw [h4] at cP2
 rw [h5] at cP3
 obtain ⟨z,hz⟩ : ∃ z,c.takes m=z:=⟨_,rfl⟩
 rw [hz]
 unfold Cn.takes Stp.take at hz
 have e0:c.start.c=c:=rfl
 rw [h1,e0,h0,cond_false] at hz
 have hs2:=h2
 unfold Stp.data Stp.dataIn Stp.dataFin flN Cn.hears at hs2
 obtain ⟨⟨n', ps', told⟩,hr⟩ : ∃ r,reaS x1.c.inx x1.c.parts m.seq m.data=r:=⟨_,rfl⟩
 rw [hr] at cR hs2
 have hlen:decide (0 < (ps'.length:Int)) = !((ps'.length:Int) == 0):=by
  cases ps' with
  | nil=>rfl
  | cons a l=>simp;omega
 obtain ⟨acc,hacc⟩ : ∃ r,c.accepts m=r:=⟨_,rfl⟩
 rw [hacc] at hz
 have hacc2:=hacc
 unfold Cn.accepts at hacc2
 rw [← w] at hacc2
 unfold Stp.more flN at hz
 rw [h2] at hz
 clear hI1 hI2 ho1 ho2 hI h1 h2 hr hm hseq hd hbl w hacc
 unfold Cn.start at *
 dsimp only [cnR,cnL,sgR,sgL] at cB cL cK hz hacc2 ⊢
 refine ACallL.of_AWs Tryz.func66 rfl (fun a w=>Tryz.call66 a w) (congrArg Array.toList Tryz.results66) Tryz.ntmps66 (by simp only [spine,List.cons_append,List.nil_append,List.append_assoc];rfl) fun B hB=>?_
 refine qAWs.cut af 8 (by simp only [List.take_succ_cons,List.take_zero];rfl) (by simp only [List.drop_succ_cons,List.drop_zero];rfl) (by simp only [aJ];rfl) rfl (X:=Unit) (fun _=>ap 243 [(2,.ptr 1 0 0),(3,.ptr 2 0 0),(5,.ptr 3 0 0),(6,.val (.int .i64 m.len)),(7,.val (.bool acc))])
  (fun _=>[.perm,.live ⟨16,50,[cnR 0 c]⟩,.live ⟨7,39,[sgR 0 m]⟩,rsO (rsN 4 5 6 7 8 9 ⟨c,[],[]⟩),.uniq,.uniq,.uniq,.uniq,.uniq,.uniq]) (fun _=>True) ?_ ?_
 ·clear hz cK cS0 cC0 cR cS2 hs2
  dsimp only [rsN,spL] at cB ⊢
  ((conv=>whnf);(repeat' ((first|refine gT ?_|(with_reducible refine ab (fun _=>?_) (fun _=>?_))|((with_reducible refine qcp (cL) ?_);refine pT ?_)|((with_reducible refine qcp (u5 _ _ _) ?_);refine pT ?_)|((with_reducible refine qcp (bO _ _) ?_);refine pT ?_)|(((with_reducible refine qco (cB) [] [(0,0)] [] [(1,3),(2,4),(3,5),(4,6),(5,7),(6,8),(7,9)] [(3,rsO (rsN 4 5 6 7 8 9 ⟨c,[],[]⟩)),(4,.uniq),(5,.uniq),(6,.uniq),(7,.uniq),(8,.uniq),(9,.uniq)] (.ptr 3 0 0) ?_);refine sT ?_)))<;>(conv=>whnf))))
  all_goals as_aux_lemma =>
   refine ⟨(),trivial,?_⟩
   (refine qcv hB [(1,1),(2,2),(3,3)] [(0,0),(4,4),(5,5),(6,6),(7,7),(8,8),(9,9)] [] ?_;repeat' (with_reducible first|exact trivial|refine And.intro ?_ ?_))
   all_goals (try (first|rfl|(rw [← hacc2];simp only [*, Bool.true_or,Bool.or_true,Bool.false_or,Bool.or_false,Bool.and_true,Bool.and_false,Bool.false_and,Bool.true_and];done)))
   all_goals (try exact dX)
 rintro ⟨⟩ -
 refine qAWs.cut af 10 (by simp only [List.take_succ_cons,List.take_zero];rfl) (by simp only [List.drop_succ_cons,List.drop_zero];rfl) (by simp only [aJ];rfl) rfl (X:=Unit) (fun _=>ap 243 [(5,.ptr 1 0 0),(6,.val (.int .i64 m.len))]) (fun _=>rsH x2)
  (fun _=>z=(x2.ackLen m).pumpT.late) ?_ ?_
 ·dsimp only [rsN,spL] at cK cS0 cC0 cR ⊢
  ((conv=>whnf);(repeat' ((first|refine gT ?_|(with_reducible refine ab (fun _=>?_) (fun _=>?_))|((with_reducible refine qcp (bO _ _) ?_);refine pT ?_)|((with_reducible refine qcp (ej _) ?_);refine pT ?_)|(((with_reducible refine qco (cK) [(1,3)] [(0,0),(2,4),(3,5),(4,6),(5,7),(6,8),(7,9)] [] [(8,10),(9,11),(10,12)] [(3,rsO (rsN 12 5 6 7 10 11 x1)),(4,.dead),(8,.dead),(9,.dead),(10,.uniq),(11,.uniq),(12,.uniq)] (.val (.bool b)) ?_);refine sT ?_))|(((with_reducible refine qco (cS0) [(1,3)] [(0,0),(2,4),(3,5),(4,6),(5,7),(6,8),(7,9)] [] [(8,10),(9,11)] [(3,rsO (rsN 4 5 6 7 10 11 (Stp.acks ⟨c,[],[]⟩))),(8,.dead),(9,.dead),(10,.uniq),(11,.uniq)] (.tup []) ?_);refine sT ?_))|(((with_reducible refine qco (cC0) [(1,3)] [(0,0),(2,4),(3,5),(4,6),(5,7),(6,8),(7,9)] [] [] [(3,rsO (rsN 4 5 6 7 8 9 (Stp.shut ⟨c,[],[]⟩)))] (.tup []) ?_);refine sT ?_))|(((with_reducible refine qco (cR) [] [(0,0),(1,5),(2,6)] [] [(3,13),(4,14),(5,15)] [(5,.dead),(6,.dead),(13,.uniq),(14,.uniq),(15,.uniq)] (.tup [.agg [.val (.int .i64 n'),.list 13 2 (ps'.map (prt 14))],bL 15 told]) ?_);refine sT ?_)))<;>(conv=>whnf))))
  all_goals as_aux_lemma =>
   (try simp only [bne,Bool.not_eq_true', Bool.not_eq_false', List.length_map] at *)
   (simp only [*, cond_true,cond_false] at hz)
   (try simp only [*, cond_true,cond_false,Bool.true_or,Bool.or_true,Bool.false_or,Bool.or_false,Bool.not_true,Bool.not_false] at hs2)
   first
    | (refine ⟨(),hz.symm,?_⟩
       subst hs2
       first
        | ((refine qcv hB [(3,1)] [(0,0),(12,2),(13,3),(14,4),(15,5),(10,6),(11,7)] [] ?_;repeat' (with_reducible first|exact trivial|refine And.intro ?_ ?_)))
        | ((refine qcv hB [(3,1)] [(0,0),(12,2),(5,3),(6,4),(7,5),(10,6),(11,7)] [] ?_;repeat' (with_reducible first|exact trivial|refine And.intro ?_ ?_)))
       all_goals (try exact dX)
       done)
    | (subst hz
       first
        | ((refine qcv hB [(3,1)] [(0,0),(12,2),(5,3),(6,4),(7,5),(10,6),(11,7)] [] ?_;repeat' (with_reducible first|exact trivial|refine And.intro ?_ ?_)))
        | ((refine qcv hB [(3,1)] [(0,0),(4,2),(5,3),(6,4),(7,5),(10,6),(11,7)] [] ?_;repeat' (with_reducible first|exact trivial|refine And.intro ?_ ?_)))
        | ((refine qcv hB [(3,1)] [(0,0),(4,2),(5,3),(6,4),(7,5),(8,6),(9,7)] [] ?_;repeat' (with_reducible first|exact trivial|refine And.intro ?_ ?_)))
       all_goals (try exact dX)
       done)
 clear hz
 rintro ⟨⟩ hz
 clear hs2 cB cL cK cS0 cC0 cR
 refine qAWs.fin af (by simp only [aJ];rfl) ?_
 dsimp only [rsN,spL] at cS2 cP2 cP3 ⊢
 ((conv=>whnf);(repeat' ((first|refine gT ?_|(with_reducible refine ab (fun _=>?_) (fun _=>?_))|((with_reducible refine qcp (ej _) ?_);refine pT ?_)|(refine qCall.rsent rfl ?_)|(((with_reducible refine qco (cS2) [(1,1)] [(0,0),(2,2),(3,3),(4,4),(5,5),(6,6),(7,7)] [] [(8,8),(9,9)] [(1,rsO (rsN 2 3 4 5 8 9 x3)),(6,.dead),(7,.dead),(8,.uniq),(9,.uniq)] (.tup []) ?_);refine sT ?_))|(((with_reducible refine qco ((cP2 (by simp only [*, Bool.true_or,Bool.or_true]))) [(1,1)] [(0,0),(2,2),(3,3),(4,4),(5,5),(6,6),(7,7)] [] [(8,8),(9,9)] [(1,rsO (rsN 2 3 4 5 8 9 x4)),(6,.dead),(7,.dead),(8,.uniq),(9,.uniq)] (.tup []) ?_);refine sT ?_))|(((with_reducible refine qco ((cP3 (by simp only [*, Bool.true_or,Bool.or_true]))) [(1,1)] [(0,0),(2,2),(3,3),(4,4),(5,5),(6,8),(7,9)] [] [(8,10),(9,11)] [(1,rsO (rsN 2 3 4 5 10 11 x5)),(8,.dead),(9,.dead),(10,.uniq),(11,.uniq)] (.tup []) ?_);refine sT ?_)))<;>(conv=>whnf))))
 all_goals as_aux_lemma =>
  (try simp only [bne,Bool.not_eq_true', Bool.not_eq_false', List.length_map] at *)
  (simp only [Stp.ackLen, *, cond_true,cond_false] at hz)
  (simp only [Stp.pumpT,Cn.talks, *, cond_true,cond_false,Bool.true_or,Bool.or_true,Bool.false_or,Bool.or_false] at hz)
  (unfold Stp.late Cn.lateB Cn.sent at hz)
  (simp only [*, cond_true,cond_false,Bool.and_true,Bool.true_and,Bool.and_false,Bool.false_and,Bool.not_true,Bool.not_false] at hz)
  subst hz
  first
   | ((refine qcv hB [(1,1)] [(0,0),(2,2),(3,3),(4,4),(5,5),(8,6),(9,7)] [] ?_;repeat' (with_reducible first|exact trivial|refine And.intro ?_ ?_)))
   | ((refine qcv hB [(1,1)] [(0,0),(2,2),(3,3),(4,4),(5,5),(10,6),(11,7)] [] ?_;repeat' (with_reducible first|exact trivial|refine And.intro ?_ ?_)))
   | ((refine qcv hB [(1,1)] [(0,0),(2,2),(3,3),(4,4),(5,5),(6,6),(7,7)] [] ?_;repeat' (with_reducible first|exact trivial|refine And.intro ?_ ?_)))
  all_goals (try exact dX)
theorem cU {p:Prop} (h:p:=by first|((first|rfl|(refine RowsRen.one ?_;(repeat (refine Cells.cons ?_ ?_;focus (first|exact .val _|exact Ren.ll rfl _|exact Ren.gg rfl _|exact Ren.g2 rfl _|exact Ren.vnil _ _|exact Ren.vgnil _ _|exact Ren.sll rfl rfl _|exact Ren.sllN rfl rfl rfl rfl|exact Ren.sll1 rfl rfl rfl rfl|exact Ren.pll rfl rfl _|fail)));exact Cells.nil)|exact dr rfl _|exact br rfl _|exact aH _);done)|fail):p:=h
theorem pf (x:Stp) (seq fl:Int) (data:List Int) (hd:data.length≤100000000) (hs:x.out.length≤100000000) :
 ACallL Tryz.prog 96 [.ptr 1 0 0,.val (.int .i64 seq),.val (.int .i64 fl),bL 0 data] [.perm,rsO (rsN 2 3 4 5 6 7 x),.perm,.perm,.perm,.perm,.uniq,.uniq]
  (.tup []) [.perm,rsO (rsN 2 3 4 5 8 9 (x.seg seq fl data)),.perm,.perm,.perm,.perm,.dead,.dead,.uniq,.uniq]:=by
 dsimp only [rsN,spL,Stp.seg] at hs ⊢
 refine ACallL.of_ev af Tryz.func96 rfl (fun a w=>Tryz.call96 a w) (congrArg Array.toList Tryz.results96) Tryz.ntmps96 fun B hB=>?_
 ((conv=>whnf);(repeat' ((first|refine gT ?_|(with_reducible refine ab (fun _=>?_) (fun _=>?_)))<;>(conv=>whnf))))
 ((with_reducible refine qcf (fun r=>gL r data) (bK data hd) [(0,0)] [] ?_);refine sT ?_)
 ((conv=>whnf);(repeat' ((first|refine gT ?_|(with_reducible refine ab (fun _=>?_) (fun _=>?_))|(refine ak (apG (nb:=72) rfl rfl rfl rfl rfl rfl rfl rfl rfl rfl (by decide) rfl (by simp;omega)) ?_))<;>(conv=>whnf))))
 (refine qcv hB [(1,1)] [(0,0),(2,2),(3,3),(4,4),(5,5),(10,8),(7,9),(8,9)] [] ?_;repeat' (with_reducible first|exact trivial|refine And.intro ?_ ?_))
 all_goals (try exact cU)
abbrev rsS (o p d t s e:Nat) (c:Cn):List AV:=spL (bL o c.out) (.list p 2 (c.parts.map (prt d))) (.glist s 7 (([]:List Sg).map (sgR e))) (bL t []) c
theorem tP (c:Cn) (h:cnB c=true) (hr:cQ c.tm=true) (h8:(c.st == 8)=false) (h88:(c.tm.tries == 8)=false) :
 ACallL Tryz.prog 60 [.agg (cnR 0 c)] [.perm] (.ptr 1 0 0) (rsH ({ c with tm:=df (aX c.tm) } : Cn).start.again):=by
 have px:=al c.out
 have py:=ar c.parts
 have hI:=(bh c).1 h
 have cB:=fG c hI.cnLen
 obtain ⟨ht1,ht2,ht3,ht4⟩:=ln hI.tm
 have cT:=kT c.tm ht1
 have hl1:0≤(aX c.tm).left∧(aX c.tm).left≤48∧(c.tm.on=true∨(aX c.tm).left=0):=by
  show 0≤(if c.tm.on=true then max (c.tm.left - 1) 0 else c.tm.left)∧(if c.tm.on=true then max (c.tm.left - 1) 0 else c.tm.left)≤48∧(c.tm.on=true∨(if c.tm.on=true then max (c.tm.left - 1) 0 else c.tm.left)=0)
  by_cases hon:c.tm.on=true
  ·rw [if_pos hon];exact ⟨by omega,by omega,.inl hon⟩
  ·rw [if_neg hon];exact ⟨by omega,by omega,.inr (ht4.resolve_left hon)⟩
 have hB1:tmB (aX c.tm)=true:=by
  unfold tmB
  rw [Bool.and_eq_true,decide_eq_true_eq,Bool.or_eq_true,beq_iff_eq]
  exact ⟨⟨hl1.1,hl1.2.1,ht2.1,ht2.2,ht3.1,ht3.2⟩,hl1.2.2⟩
 have htt:(aX c.tm).tries=c.tm.tries:=rfl
 obtain ⟨t1,hb⟩ : ∃ r,aX c.tm=r:=⟨_,rfl⟩
 rw [hb] at cT hB1 htt ⊢
 rw [hr] at cT
 have cK:=ls t1 hB1
 have e8 : ¬ t1.tries=8:=by rw [htt];simpa using h88
 rw [if_neg e8,if_neg e8] at cK
 obtain ⟨t2,hb2⟩ : ∃ r,df t1=r:=⟨_,rfl⟩
 rw [hb2] at cK ⊢
 have hlen:=hI.len
 have lo:(c.out.map bR).length=c.out.length:=by simp
 obtain ⟨z,hz⟩ : ∃ z,(({ c with tm:=t2 } : Cn)).start.again=z:=⟨_,rfl⟩
 rw [hz]
 unfold Stp.again Cn.sent Cn.len Cn.start at hz
 dsimp only at hz
 unfold Cn.start at cB
 clear hb hb2 hB1 h88 hr hl1 ht1 ht2 ht3 ht4 htt e8
 cases h1:(c.st == 1) with
 | true =>
   have cS:=gE (⟨({ c with tm:=t2 } : Cn),[],[]⟩:Stp) c.una 18 [] (by simp) (by simp)
   rw [h1,cond_true] at hz
   subst hz
   dsimp only [cnR,cnL,rsN,spL,tmC] at cB cT cK cS ⊢
   refine ACallL.of_ev af Tryz.func60 rfl (fun a w=>Tryz.call60 a w) (congrArg Array.toList Tryz.results60) Tryz.ntmps60 fun B hB=>?_
   ((conv=>whnf);(repeat' ((first|refine gT ?_|(with_reducible refine ab (fun _=>?_) (fun _=>?_))|((with_reducible refine qcp (cT) ?_);refine pT ?_)|((with_reducible refine qcp (cK) ?_);refine pT ?_)|(((with_reducible refine qco (cB) [] [(0,0)] [] [(1,2),(2,3),(3,4),(4,5),(5,6),(6,7),(7,8)] [(2,rsO (rsS 3 4 5 6 7 8 c)),(3,.uniq),(4,.uniq),(5,.uniq),(6,.uniq),(7,.uniq),(8,.uniq)] (.ptr 2 0 0) ?_);refine sT ?_))|(refine qCall.rsent rfl ?_)|(((with_reducible refine qco (cS) [(1,2)] [(0,0),(2,3),(3,4),(4,5),(5,6),(6,7),(7,8)] [] [(8,10),(9,11)] [(2,rsO (rsN 3 4 5 6 10 11 (Stp.seg ⟨({ c with tm:=t2 } : Cn),[],[]⟩ c.una 18 []))),(7,.dead),(8,.dead),(10,.uniq),(11,.uniq)] (.tup []) ?_);refine sT ?_)))<;>(conv=>whnf))))
   all_goals ((refine qcv hB [(2,1)] [(0,0),(3,2),(4,3),(5,4),(6,5),(10,6),(11,7)] [] ?_;repeat' (with_reducible first|exact trivial|refine And.intro ?_ ?_)))
   all_goals (try exact cU)
 | false =>
   rw [h1,cond_false] at hz
   by_cases hn:0 < ah c.nx c.una
   ·have hn' : decide (0 < ah c.nx c.una)=true:=by simpa using hn
    by_cases hl:0 < c.out.length
    ·have hk:decide (0 < min 536 (min (ah c.nx c.una) ((c.out.map bR).length:Int)))=true:=by rw [lo,decide_eq_true_eq];omega
     have hle' : decide (0 < (c.out.length:Int))=true:=by rw [decide_eq_true_eq];omega
     obtain ⟨data,hda⟩ : ∃ d,c.out.take (min (min (ah c.nx c.una) c.out.length) 536).toNat=d:=⟨_,rfl⟩
     have hcb:0≤(none:Option Int).getD 0∧(none:Option Int).getD 0≤(some (min 536 (min (ah c.nx c.una) ((c.out.map bR).length:Int)))).getD ((c.out.map bR).length:Int)∧(some (min 536 (min (ah c.nx c.una) ((c.out.map bR).length:Int)))).getD ((c.out.map bR).length:Int)≤(none:Option Int).getD ((c.out.map bR).length:Int)∧(none:Option Int).getD ((c.out.map bR).length:Int)≤((c.out.map bR).length:Int)∧((none:Option Int)=none∨(some (min 536 (min (ah c.nx c.una) ((c.out.map bR).length:Int))))≠none):=by
      simp only [Option.getD_some,Option.getD_none]
      exact ⟨by omega,by omega,by omega,by omega,.inl trivial⟩
     have hsl:((c.out.map bR).drop ((none:Option Int).getD 0).toNat).take ((some (min 536 (min (ah c.nx c.una) ((c.out.map bR).length:Int)))).getD ((c.out.map bR).length:Int) - (none:Option Int).getD 0).toNat=data.map bR:=by
      simp only [Option.getD_some,Option.getD_none]
      rw [← hda,List.map_take,lo,Int.toNat_zero,List.drop_zero]
      congr 1
      omega
     have cS:=pf (⟨({ c with tm:=t2 } : Cn),[],[]⟩:Stp) c.una 24 data (by rw [← hda];simp;omega) (by simp)
     rw [hn', hle', hda,Bool.and_true,cond_true] at hz
     subst hz
     dsimp only [cnR,cnL,rsN,spL,tmC] at cB cT cK cS ⊢
     refine ACallL.of_ev af Tryz.func60 rfl (fun a w=>Tryz.call60 a w) (congrArg Array.toList Tryz.results60) Tryz.ntmps60 fun B hB=>?_
     ((conv=>whnf);(repeat' ((first|refine gT ?_|(with_reducible refine ab (fun _=>?_) (fun _=>?_))|((with_reducible refine qcp (cT) ?_);refine pT ?_)|((with_reducible refine qcp (cK) ?_);refine pT ?_)|(((with_reducible refine qco (cB) [] [(0,0)] [] [(1,2),(2,3),(3,4),(4,5),(5,6),(6,7),(7,8)] [(2,rsO (rsS 3 4 5 6 7 8 c)),(3,.uniq),(4,.uniq),(5,.uniq),(6,.uniq),(7,.uniq),(8,.uniq)] (.ptr 2 0 0) ?_);refine sT ?_))|(refine qCall.rsent rfl ?_)|(refine ak (slL' rfl rfl rfl rfl rfl rfl rfl rfl hcb hsl) ?_)|(((with_reducible refine qco (cS) [(1,2)] [(0,0),(2,3),(3,4),(4,5),(5,6),(6,7),(7,8)] [] [(8,10),(9,11)] [(2,rsO (rsN 3 4 5 6 10 11 (Stp.seg ⟨({ c with tm:=t2 } : Cn),[],[]⟩ c.una 24 data))),(7,.dead),(8,.dead),(10,.uniq),(11,.uniq)] (.tup []) ?_);refine sT ?_)))<;>(conv=>whnf))))
     all_goals ((refine qcv hB [(2,1)] [(0,0),(3,2),(4,3),(5,4),(6,5),(10,6),(11,7)] [] ?_;repeat' (with_reducible first|exact trivial|refine And.intro ?_ ?_)))
     all_goals (try exact cU)
    ·have hk:decide (0 < min 536 (min (ah c.nx c.una) ((c.out.map bR).length:Int)))=false:=by rw [lo,decide_eq_false_iff_not];omega
     have hle' : decide (0 < (c.out.length:Int))=false:=by rw [decide_eq_false_iff_not];omega
     have cS:=gE (⟨({ c with tm:=t2 } : Cn),[],[]⟩:Stp) c.una 17 [] (by simp) (by simp)
     rw [hn', hle', Bool.and_false,cond_false,cond_true] at hz
     subst hz
     dsimp only [cnR,cnL,rsN,spL,tmC] at cB cT cK cS ⊢
     refine ACallL.of_ev af Tryz.func60 rfl (fun a w=>Tryz.call60 a w) (congrArg Array.toList Tryz.results60) Tryz.ntmps60 fun B hB=>?_
     ((conv=>whnf);(repeat' ((first|refine gT ?_|(with_reducible refine ab (fun _=>?_) (fun _=>?_))|((with_reducible refine qcp (cT) ?_);refine pT ?_)|((with_reducible refine qcp (cK) ?_);refine pT ?_)|(((with_reducible refine qco (cB) [] [(0,0)] [] [(1,2),(2,3),(3,4),(4,5),(5,6),(6,7),(7,8)] [(2,rsO (rsS 3 4 5 6 7 8 c)),(3,.uniq),(4,.uniq),(5,.uniq),(6,.uniq),(7,.uniq),(8,.uniq)] (.ptr 2 0 0) ?_);refine sT ?_))|(refine qCall.rsent rfl ?_)|(((with_reducible refine qco (cS) [(1,2)] [(0,0),(2,3),(3,4),(4,5),(5,6),(6,7),(7,8)] [] [(8,10),(9,11)] [(2,rsO (rsN 3 4 5 6 10 11 (Stp.seg ⟨({ c with tm:=t2 } : Cn),[],[]⟩ c.una 17 []))),(7,.dead),(8,.dead),(10,.uniq),(11,.uniq)] (.tup []) ?_);refine sT ?_)))<;>(conv=>whnf))))
     all_goals ((refine qcv hB [(2,1)] [(0,0),(3,2),(4,3),(5,4),(6,5),(10,6),(11,7)] [] ?_;repeat' (with_reducible first|exact trivial|refine And.intro ?_ ?_)))
     all_goals (try exact cU)
   ·have hn' : decide (0 < ah c.nx c.una)=false:=by simpa using hn
    by_cases hl:0 < c.out.length
    ·have hle' : decide (0 < (c.out.length:Int))=true:=by rw [decide_eq_true_eq];omega
     have hle2:decide (0 < ((c.out.map bR).length:Int))=true:=by rw [lo];exact hle'
     obtain ⟨d1,hd1⟩ : ∃ d,c.out.take 1=d:=⟨_,rfl⟩
     have hcb1:0≤(none:Option Int).getD 0∧(none:Option Int).getD 0≤(some (1:Int)).getD ((c.out.map bR).length:Int)∧(some (1:Int)).getD ((c.out.map bR).length:Int)≤(none:Option Int).getD ((c.out.map bR).length:Int)∧(none:Option Int).getD ((c.out.map bR).length:Int)≤((c.out.map bR).length:Int)∧((none:Option Int)=none∨(some (1:Int))≠none):=by
      simp only [Option.getD_some,Option.getD_none]
      exact ⟨by omega,by omega,by omega,by omega,.inl trivial⟩
     have hsl1:((c.out.map bR).drop ((none:Option Int).getD 0).toNat).take ((some (1:Int)).getD ((c.out.map bR).length:Int) - (none:Option Int).getD 0).toNat=d1.map bR:=by
      simp only [Option.getD_some,Option.getD_none]
      rw [← hd1,List.map_take];simp
     have cS:=pf (⟨({ c with tm:=t2 } : Cn),[],[]⟩:Stp) c.nx 24 d1 (by rw [← hd1];simp;omega) (by simp)
     rw [hn', hle', Bool.false_and,cond_false,cond_false,cond_true,hd1] at hz
     subst hz
     dsimp only [cnR,cnL,rsN,spL,tmC] at cB cT cK cS ⊢
     refine ACallL.of_ev af Tryz.func60 rfl (fun a w=>Tryz.call60 a w) (congrArg Array.toList Tryz.results60) Tryz.ntmps60 fun B hB=>?_
     ((conv=>whnf);(repeat' ((first|refine gT ?_|(with_reducible refine ab (fun _=>?_) (fun _=>?_))|((with_reducible refine qcp (cT) ?_);refine pT ?_)|((with_reducible refine qcp (cK) ?_);refine pT ?_)|(((with_reducible refine qco (cB) [] [(0,0)] [] [(1,2),(2,3),(3,4),(4,5),(5,6),(6,7),(7,8)] [(2,rsO (rsS 3 4 5 6 7 8 c)),(3,.uniq),(4,.uniq),(5,.uniq),(6,.uniq),(7,.uniq),(8,.uniq)] (.ptr 2 0 0) ?_);refine sT ?_))|((with_reducible refine qcp (bO _ _) ?_);refine pT ?_)|(refine qCall.rsent rfl ?_)|(refine ak (slL' rfl rfl rfl rfl rfl rfl rfl rfl hcb1 hsl1) ?_)|(((with_reducible refine qco (cS) [(1,2)] [(0,0),(2,3),(3,4),(4,5),(5,6),(6,7),(7,8)] [] [(8,10),(9,11)] [(2,rsO (rsN 3 4 5 6 10 11 (Stp.seg ⟨({ c with tm:=t2 } : Cn),[],[]⟩ c.nx 24 d1))),(7,.dead),(8,.dead),(10,.uniq),(11,.uniq)] (.tup []) ?_);refine sT ?_)))<;>(conv=>whnf))))
     all_goals ((refine qcv hB [(2,1)] [(0,0),(3,2),(4,3),(5,4),(6,5),(10,6),(11,7)] [] ?_;repeat' (with_reducible first|exact trivial|refine And.intro ?_ ?_)))
     all_goals (try exact cU)
    ·have hle' : decide (0 < (c.out.length:Int))=false:=by rw [decide_eq_false_iff_not];omega
     have hle2:decide (0 < ((c.out.map bR).length:Int))=false:=by rw [lo];exact hle'
     rw [hn', hle', Bool.false_and,cond_false,cond_false,cond_false] at hz
     subst hz
     dsimp only [cnR,cnL,rsN,spL,tmC] at cB cT cK ⊢
     refine ACallL.of_ev af Tryz.func60 rfl (fun a w=>Tryz.call60 a w) (congrArg Array.toList Tryz.results60) Tryz.ntmps60 fun B hB=>?_
     ((conv=>whnf);(repeat' ((first|refine gT ?_|(with_reducible refine ab (fun _=>?_) (fun _=>?_))|((with_reducible refine qcp (cT) ?_);refine pT ?_)|((with_reducible refine qcp (cK) ?_);refine pT ?_)|(((with_reducible refine qco (cB) [] [(0,0)] [] [(1,2),(2,3),(3,4),(4,5),(5,6),(6,7),(7,8)] [(2,rsO (rsS 3 4 5 6 7 8 c)),(3,.uniq),(4,.uniq),(5,.uniq),(6,.uniq),(7,.uniq),(8,.uniq)] (.ptr 2 0 0) ?_);refine sT ?_))|(refine qCall.rsent rfl ?_))<;>(conv=>whnf))))
     all_goals ((refine qcv hB [(2,1)] [(0,0),(3,2),(4,3),(5,4),(6,5),(7,6),(8,7)] [] ?_;repeat' (with_reducible first|exact trivial|refine And.intro ?_ ?_)))
     all_goals (try exact cU)
theorem eg {p:Prop} (h:p:=by first|((first|rfl|(refine RowsRen.one ?_;(repeat (refine Cells.cons ?_ ?_;focus (first|exact .val _|exact Ren.ll rfl _|exact Ren.gg rfl _|exact Ren.g2 rfl _|exact Ren.vnil _ _|exact Ren.vgnil _ _|exact Ren.sll rfl rfl _|exact Ren.sllN rfl rfl rfl rfl|exact Ren.sll1 rfl rfl rfl rfl|exact Ren.pll rfl rfl _|fail)));exact Cells.nil)|exact dr rfl _|exact br rfl _|exact aH _);done)|fail):p:=h
theorem Ren.fzL {L I F:Prs} {h:Hp} {b r d d' : Nat} {e:TypeId} {m:Sg} (h0:F.has b r=true) (hb:h b = .live ⟨7,e,[sgG d m]⟩) (h1:I.has d d' = true):Ren (qOf L I F) h (.sl b 0 1) (.glist r 7 ([m].map (sgR d'))):=by
 obtain ⟨x,y,z⟩:=o9 (L:=L) (I:=I) (F:=F) (h:=h) h1 [m]
 exact .frzg _ _ _ _ _ _ ((Prs.has_iff F b r).1 h0) hb x y z
theorem wj (c:Cn) (seq fl:Int):ACallL Tryz.prog 96 [.ptr 1 0 0,.val (.int .i64 seq),.val (.int .i64 fl),.val (.slice none 0 0)] [.perm,rsO (spL (.val (.slice none 0 0)) (.val (.slice none 0 0)) (.val (.slice none 0 0)) (.val (.slice none 0 0)) c)]
 (.tup []) [.perm,rsO (spL (.val (.slice none 0 0)) (.val (.slice none 0 0)) (.glist 2 7 ([(⟨c.port,c.pp,seq,c.inx,fl,2048,[]⟩:Sg)].map (sgR 3))) (.val (.slice none 0 0)) c),.uniq,.uniq]:=by
 have cC:=bK [] (by decide)
 dsimp only [spL]
 refine ACallL.of_ev af Tryz.func96 rfl (fun a w=>Tryz.call96 a w) (congrArg Array.toList Tryz.results96) Tryz.ntmps96 fun B hB=>?_
 ((conv=>whnf);(repeat' ((first|refine gT ?_|(with_reducible refine ab (fun _=>?_) (fun _=>?_)))<;>(conv=>whnf))))
 ((with_reducible refine qcf (fun r=>gL r []) (cC) [(0,0)] [] ?_);refine sT ?_)
 ((conv=>whnf);(repeat' ((first|refine gT ?_|(with_reducible refine ab (fun _=>?_) (fun _=>?_)))<;>(conv=>whnf))))
 (refine qcv hB [(1,1)] [(0,0),(2,3)] [(4,2)] ?_;repeat' (with_reducible first|exact trivial|refine And.intro ?_ ?_))
 all_goals (try (refine RowsRen.one ?_;(repeat (refine Cells.cons ?_ ?_;focus (first|exact .val _|exact Ren.fzL rfl rfl rfl|fail)));exact Cells.nil))
theorem vH (link ip iss:Int) (m:Sg):ACallL Tryz.prog 68 [.val (.int .i64 link),.val (.int .i64 ip),.val (.int .i64 iss),.agg (sgR 0 m)] [.perm] (.ptr 1 0 0) (rsH (ce link ip iss m)):=by
 have pz:=al m.data
 unfold ce Stp.seg Cn.start
 obtain ⟨c,hc⟩ : ∃ c:Cn,c=(⟨link,ip,m.sp,m.dp,1,iss,wadd iss 1,m.win,[],wadd m.seq 1,[],false,ba 3⟩:Cn):=⟨_,rfl⟩
 have cW:=wj c iss 18
 subst hc
 dsimp only [sgR,sgL,spL,rsN,ba] at cW ⊢
 refine ACallL.of_ev af Tryz.func68 rfl (fun a w=>Tryz.call68 a w) (congrArg Array.toList Tryz.results68) Tryz.ntmps68 fun B hB=>?_
 ((conv=>whnf);(repeat' ((first|refine gT ?_|(with_reducible refine ab (fun _=>?_) (fun _=>?_))|((with_reducible refine qcp (bO _ _) ?_);refine pT ?_)|((with_reducible refine qcp (ej _) ?_);refine pT ?_))<;>(conv=>whnf))))
 ((with_reducible refine qco (cW) [(1,2)] [(0,0)] [] [(2,3),(3,4)] [(2,rsO (spL (.val (.slice none 0 0)) (.val (.slice none 0 0)) (.glist 3 7 ([(⟨m.dp,m.sp,iss,wadd m.seq 1,18,2048,[]⟩:Sg)].map (sgR 4))) (.val (.slice none 0 0)) (⟨link,ip,m.sp,m.dp,1,iss,wadd iss 1,m.win,[],wadd m.seq 1,[],false,ba 3⟩:Cn))),(3,.uniq),(4,.uniq)] (.tup []) ?_);refine sT ?_)
 ((conv=>whnf);(repeat' ((first|refine gT ?_|(with_reducible refine ab (fun _=>?_) (fun _=>?_)))<;>(conv=>whnf))))
 (refine qcv hB [(2,1)] [(0,0),(3,6),(4,7)] [] ?_;repeat' (with_reducible first|exact trivial|refine And.intro ?_ ?_))
 all_goals (try exact eg)
theorem vE (c:Cn) (h:cnB c=true):ACallL Tryz.prog 60 [.agg (cnR 0 c)] [.perm] (.ptr 1 0 0) (rsH c.ticks):=by
 have px:=al c.out
 have py:=ar c.parts
 have hI:=(bh c).1 h
 have cB:=fG c hI.cnLen
 have cAb:=m4 c h
 obtain ⟨ht1,ht2,ht3,ht4⟩:=ln hI.tm
 have cT:=kT c.tm ht1
 have hl1:0≤(aX c.tm).left∧(aX c.tm).left≤48∧(c.tm.on=true∨(aX c.tm).left=0):=by
  show 0≤(if c.tm.on=true then max (c.tm.left - 1) 0 else c.tm.left)∧(if c.tm.on=true then max (c.tm.left - 1) 0 else c.tm.left)≤48∧(c.tm.on=true∨(if c.tm.on=true then max (c.tm.left - 1) 0 else c.tm.left)=0)
  by_cases hon:c.tm.on=true
  ·rw [if_pos hon];exact ⟨by omega,by omega,.inl hon⟩
  ·rw [if_neg hon];exact ⟨by omega,by omega,.inr (ht4.resolve_left hon)⟩
 have hB1:tmB (aX c.tm)=true:=by
  unfold tmB
  rw [Bool.and_eq_true,decide_eq_true_eq,Bool.or_eq_true,beq_iff_eq]
  exact ⟨⟨hl1.1,hl1.2.1,ht2.1,ht2.2,ht3.1,ht3.2⟩,hl1.2.2⟩
 unfold Cn.ticks
 have htt:(aX c.tm).tries=c.tm.tries:=rfl
 obtain ⟨t1,hb⟩ : ∃ r,aX c.tm=r:=⟨_,rfl⟩
 rw [hb] at cT hB1 htt ⊢
 cases hr:cQ c.tm with
 | false =>
   rw [hr] at cT
   rw [cond_false]
   unfold Cn.start at cB ⊢
   dsimp only [cnR,cnL,rsN,spL,tmC] at cB cT ⊢
   refine ACallL.of_ev af Tryz.func60 rfl (fun a w=>Tryz.call60 a w) (congrArg Array.toList Tryz.results60) Tryz.ntmps60 fun B hB=>?_
   ((conv=>whnf);(repeat' ((first|refine gT ?_|(with_reducible refine ab (fun _=>?_) (fun _=>?_))|((with_reducible refine qcp (cT) ?_);refine pT ?_)|(((with_reducible refine qco (cB) [] [(0,0)] [] [(1,2),(2,3),(3,4),(4,5),(5,6),(6,7),(7,8)] [(2,rsO (rsS 3 4 5 6 7 8 c)),(3,.uniq),(4,.uniq),(5,.uniq),(6,.uniq),(7,.uniq),(8,.uniq)] (.ptr 2 0 0) ?_);refine sT ?_)))<;>(conv=>whnf))))
   (refine qcv hB [(2,1)] [(0,0),(3,2),(4,3),(5,4),(6,5),(7,6),(8,7)] [] ?_;repeat' (with_reducible first|exact trivial|refine And.intro ?_ ?_))
   all_goals (try exact eg)
 | true =>
   rw [hr] at cT
   rw [cond_true]
   cases h8:(c.st == 8) with
   | true =>
     rw [cond_true]
     have cC:=jo (({ c with tm:=t1 } : Cn)).start
     unfold Cn.start at cB cC ⊢
     dsimp only [cnR,cnL,rsN,spL,tmC] at cB cT cC ⊢
     refine ACallL.of_ev af Tryz.func60 rfl (fun a w=>Tryz.call60 a w) (congrArg Array.toList Tryz.results60) Tryz.ntmps60 fun B hB=>?_
     ((conv=>whnf);(repeat' ((first|refine gT ?_|(with_reducible refine ab (fun _=>?_) (fun _=>?_))|((with_reducible refine qcp (cT) ?_);refine pT ?_)|(((with_reducible refine qco (cB) [] [(0,0)] [] [(1,2),(2,3),(3,4),(4,5),(5,6),(6,7),(7,8)] [(2,rsO (rsS 3 4 5 6 7 8 c)),(3,.uniq),(4,.uniq),(5,.uniq),(6,.uniq),(7,.uniq),(8,.uniq)] (.ptr 2 0 0) ?_);refine sT ?_))|(((with_reducible refine qco (cC) [(1,2)] [(0,0),(2,3),(3,4),(4,5),(5,6),(6,7),(7,8)] [] [] [(2,rsO (rsS 3 4 5 6 7 8 (({ c with tm:=t1 } : Cn)).shut))] (.tup []) ?_);refine sT ?_)))<;>(conv=>whnf))))
     (refine qcv hB [(2,1)] [(0,0),(3,2),(4,3),(5,4),(6,5),(7,6),(8,7)] [] ?_;repeat' (with_reducible first|exact trivial|refine And.intro ?_ ?_))
     all_goals (try exact eg)
   | false =>
     rw [cond_false]
     have cK:=ls t1 hB1
     cases h88:(c.tm.tries == 8) with
     | true =>
       rw [cond_true]
       have e8:t1.tries=8:=by rw [htt];simpa using h88
       rw [if_pos e8,if_pos e8] at cK
       have hst0:(c.st == 0)=false:=by
        cases h0:(c.st == 0) with
        | false=>rfl
        | true =>
          obtain ⟨_,_,z3⟩:=hI.num.z (by simpa using h0)
          rw [z3] at hr;simp [cQ,tm0] at hr
       have ea:(({ c with tm:=t1 } : Cn)).aborts=c.aborts:=by
        unfold Cn.aborts Stp.abort
        show (bif c.st == 0 then _ else _)=(bif c.st == 0 then _ else _)
        rw [hst0,cond_false,cond_false]
        rfl
       rw [ea]
       obtain ⟨y,hy⟩ : ∃ r,c.aborts=r:=⟨_,rfl⟩
       rw [hy] at cAb ⊢
       unfold Cn.start at cB
       dsimp only [cnR,cnL,rsN,spL,tmC] at cB cT cK cAb ⊢
       refine ACallL.of_ev af Tryz.func60 rfl (fun a w=>Tryz.call60 a w) (congrArg Array.toList Tryz.results60) Tryz.ntmps60 fun B hB=>?_
       ((conv=>whnf);(repeat' ((first|refine gT ?_|(with_reducible refine ab (fun _=>?_) (fun _=>?_))|((with_reducible refine qcp (cT) ?_);refine pT ?_)|((with_reducible refine qcp (cK) ?_);refine pT ?_)|(((with_reducible refine qco (cB) [] [(0,0)] [] [(1,2),(2,3),(3,4),(4,5),(5,6),(6,7),(7,8)] [(2,rsO (rsS 3 4 5 6 7 8 c)),(3,.uniq),(4,.uniq),(5,.uniq),(6,.uniq),(7,.uniq),(8,.uniq)] (.ptr 2 0 0) ?_);refine sT ?_))|(((with_reducible refine qco (cAb) [] [(0,0)] [] [(1,10),(2,11),(3,12),(4,13),(5,14),(6,15),(7,16)] [(10,rsO (rsN 11 12 13 14 15 16 y)),(11,.uniq),(12,.uniq),(13,.uniq),(14,.uniq),(15,.uniq),(16,.uniq)] (.ptr 10 0 0) ?_);refine sT ?_)))<;>(conv=>whnf))))
       (refine qcv hB [(10,1)] [(0,0),(11,2),(12,3),(13,4),(14,5),(15,6),(16,7)] [] ?_;repeat' (with_reducible first|exact trivial|refine And.intro ?_ ?_))
       all_goals (try exact eg)
     | false =>
       rw [cond_false, ← hb]
       exact tP c h hr h8 h88
end Go.Proofs.YtceohcbokbalhaaGreat
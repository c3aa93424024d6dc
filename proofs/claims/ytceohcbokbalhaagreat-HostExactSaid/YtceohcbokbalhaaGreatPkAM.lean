/- Contracts and plain laws, one behind the other: AhTcpY, AhHoR, AhHoK, AhHoG, AhHoA, AhHoW, AhHoX. Conditions are said at each. -/
import Derived.Test.YtceohcbokbalhaaGreatPkAL
import Derived.Test.YtceohcbokbalhaaGreatPkAH
import Derived.Test.YtceohcbokbalhaaGreatPkAK
namespace Go.Proofs.YtceohcbokbalhaaGreat
open Go.RowKit
set_option linter.unusedVariables false
set_option linter.unusedSimpArgs false
set_option maxRecDepth 100000
set_option maxHeartbeats 4000000
theorem lQ {p:Prop} (h:p:=by first|((first|rfl|(refine RowsRen.one ?_;(repeat (refine Cells.cons ?_ ?_;focus (first|exact .val _|exact Ren.ll rfl _|exact Ren.gg rfl _|exact Ren.g2 rfl _|exact Ren.vnil _ _|exact Ren.vgnil _ _|exact Ren.sll rfl rfl _|exact Ren.pll rfl rfl _|fail)));exact Cells.nil)|exact dr rfl _|exact br rfl _|exact aH _);done)|fail):p:=h
theorem uQ (c:Cn) (m:Sg) (hI:CnI c) (hm:sgB m=true) (h0:(c.st == 0)=true) :
 ACallL Tryz.prog 66 [.agg (cnR 0 c),.agg (sgR 0 m)] [.perm] (.ptr 1 0 0) (rsH (c.takes m)):=by
 have px:=al c.out
 have py:=ar c.parts
 have pz:=al m.data
 obtain ⟨_,_,hseq,_,_,_,hd⟩:=jE hm
 have cB:=fG c hI.cnLen
 have cL:=gz m (by omega)
 have e:c.takes m=c.start:=by
  unfold Cn.takes Stp.take
  show (bif c.st == 0 then _ else _)=_
  rw [h0,cond_true]
 rw [e]
 unfold Cn.start at cB ⊢
 dsimp only [cnR,cnL,sgR,sgL,rsN,spL] at cB cL ⊢
 refine ACallL.of_ev af Tryz.func66 rfl (fun a w=>Tryz.call66 a w) (congrArg Array.toList Tryz.results66) Tryz.ntmps66 fun B hB=>?_
 ((conv=>whnf);(repeat' ((first|refine gT ?_|(with_reducible refine ab (fun _=>?_) (fun _=>?_))|((with_reducible refine qcp (cL) ?_);refine pT ?_)|(((with_reducible refine qco (cB) [] [(0,0)] [] [(1,3),(2,4),(3,5),(4,6),(5,7),(6,8),(7,9)] [(3,rsO (rsN 4 5 6 7 8 9 ⟨c,[],[]⟩)),(4,.uniq),(5,.uniq),(6,.uniq),(7,.uniq),(8,.uniq),(9,.uniq)] (.ptr 3 0 0) ?_);refine sT ?_)))<;>(conv=>whnf))))
 all_goals ((refine qcv hB [(3,1)] [(0,0),(4,2),(5,3),(6,4),(7,5),(8,6),(9,7)] [] ?_;repeat' (with_reducible first|exact trivial|refine And.intro ?_ ?_)))
 all_goals (try exact lQ)
theorem uc (c:Cn) (m:Sg) (hI:CnI c) (hm:sgB m=true):ACallL Tryz.prog 66 [.agg (cnR 0 c),.agg (sgR 0 m)] [.perm] (.ptr 1 0 0) (rsH (c.takes m)):=by
 cases h0:(c.st == 0) with
 | true=>exact uQ c m hI hm h0
 | false=>exact wY c m hI hm h0
theorem pD {p q:Prop} (k:q) (h:Hold q→p:=by first|(intro hQ;refine And.intro ?_ ?_;(focus rfl);(conv=>whnf);(repeat (refine And.intro ?_ ?_;(focus (first|exact bA|(first|exact bl rfl rfl rfl _ rfl|exact aw rfl rfl rfl (aS rfl rfl rfl _) (ay rfl _) (aG rfl _)|exact aw rfl rfl rfl (aC rfl rfl rfl _) (ay rfl _) (aG rfl _)|exact aw rfl rfl rfl (aS rfl rfl rfl _) (ay (r:=9) rfl []) (aG (r:=11) rfl [])|exact aw rfl rfl rfl (aC rfl rfl rfl _) (ay rfl _) (aG (r:=11) rfl [])|exact aw rfl rfl rfl (aS rfl rfl rfl _) (ay (r:=9) rfl []) (aG rfl [_]))));(conv=>whnf)));(fail_if_success (with_reducible first|refine And.intro (bz ?_) ?_|refine And.intro (bD ?_) ?_));exact hQ.out)|fail):p:=h ⟨k⟩
theorem nw {p q:Prop} (k:q) (h:Hold q→p:=by first|(intro hQ;refine And.intro ?_ (And.intro ?_ (And.intro ?_ (And.intro ?_ ?_)));(focus kernel_rfl);(focus kernel_rfl);(focus kernel_rfl);(focus kernel_rfl);(conv=>whnf);(repeat (refine And.intro ?_ ?_;(focus (first|exact bA|(first|exact bl rfl rfl rfl _ rfl|exact aw rfl rfl rfl (aS rfl rfl rfl _) (ay rfl _) (aG rfl _)|exact aw rfl rfl rfl (aC rfl rfl rfl _) (ay rfl _) (aG rfl _)|exact aw rfl rfl rfl (aS rfl rfl rfl _) (ay (r:=9) rfl []) (aG (r:=11) rfl [])|exact aw rfl rfl rfl (aC rfl rfl rfl _) (ay rfl _) (aG (r:=11) rfl [])|exact aw rfl rfl rfl (aS rfl rfl rfl _) (ay (r:=9) rfl []) (aG rfl [_]))));(conv=>whnf)));(fail_if_success (with_reducible first|refine And.intro (bz ?_) ?_|refine And.intro (bD ?_) ?_));exact hQ.out)|fail):p:=h ⟨k⟩
abbrev rhH (y:Hs):List Own:=[.perm,hsO (aT 2 3 4 5 6 7 8 9 y),.uniq,.uniq,.uniq,.uniq,.uniq,.uniq,.uniq,.uniq]
theorem pv {ip:Int} {s:Sg} {c:Cn} (hs:sgB s=true) (hp:c.port=1883):hisB ip s c=(c.ip == ip && fc c s):=by
 unfold hisB fc
 rw [hs,hp,Bool.true_and]
 have:(c.pp == s.sp)=(s.sp == c.pp):=by rw [Bool.eq_iff_iff,beq_iff_eq,beq_iff_eq];omega
 rw [this]
 cases (s.dp == 1883)<;>cases (c.ip == ip)<;>cases (s.sp == c.pp)<;>rfl
section
variable {L I F:Prs} {h:Hp}
theorem ek {c c' s' h' : Nat} {count:Int} {C C' : List (List AV)} (h0:I.has c c' = true) (r1:RowsRen (qOf L I F) h C C') :
 RowsRen (qOf L I F) h [[.glist c 16 C,.val (.int .i64 count),.val (.slice none 0 0),.val (.slice none 0 0)]] [[.glist c' 16 C', .val (.int .i64 count),.glist s' 8 [],.glist h' 3 []]] :=
 RowsRen.one (.cons (Ren.glR h0 r1) (.cons (.val _) (.cons (Ren.vgnil _ _) (.cons (Ren.vgnil _ _) .nil))))
theorem iB {c c' s s' hh h' : Nat} {count:Int} {C C' : List (List AV)} (h0:I.has c c' = true) (h1:I.has s s' = true) (h2:I.has hh h' = true) (r1:RowsRen (qOf L I F) h C C') :
 RowsRen (qOf L I F) h [[.glist c 16 C,.val (.int .i64 count),.glist s 8 [],.glist hh 3 []]] [[.glist c' 16 C', .val (.int .i64 count),.glist s' 8 [],.glist h' 3 []]]:=aw h0 h1 h2 r1 RowsRen.nil RowsRen.nil
end
theorem bU {p:Prop} (h:p:=by first|((first|rfl|exact iB rfl rfl rfl (aK rfl rfl rfl _)|exact RowsRen.one (lu rfl _)|(exact ao));done)|fail):p:=h
theorem nM (l:List Cn) (count ip:Int) (s:Sg) (H:HoI ⟨l,count⟩) (hs:sgB s=true) (i:Nat) (c:Cn) (hi:l.findIdx? (hisB ip s)=some i) (hci:l[i]?=some c) :
 ACallL Tryz.prog 35 [.agg (hoR ⟨l,count⟩),.val (.int .i64 ip),.agg (sgR 0 s)] [.perm] (.ptr 1 0 0) (rhH ⟨Ho.put ⟨l,count⟩ i (c.takes s).c,toS ip (c.takes s).out,dR c.link (c.takes s).told (endB c.st (c.takes s).c.st)⟩):=by
 have px:=aQ l
 have pz:=al s.data
 have hl:=H.len
 dsimp only at hl
 have ll:(l.map (cnR 0)).length=l.length:=by simp
 have hcl : ∀ d∈l,aA d:=fun d hd=>(H.ok d hd).1.I.cnLen
 have cC:=ci ⟨l,count⟩ (by dsimp only;omega) hcl
 dsimp only [hoR,sgR,sgL] at cC ⊢
 have hcok:=(H.ok c (List.mem_of_getElem? hci)).1
 have cT:=uc c s hcok.I hs
 have hS:=jb hcok.I hs
 obtain ⟨y,hy⟩ : ∃ y,c.takes s=y:=⟨_,rfl⟩
 rw [hy] at cT hS
 obtain ⟨e,he⟩ : ∃ e,endB c.st y.c.st=e:=⟨_,rfl⟩
 rw [hy,he]
 obtain ⟨z,hz⟩ : ∃ z,(⟨Ho.put ⟨l,count⟩ i y.c,toS ip y.out,dR c.link y.told e⟩:Hs)=z:=⟨_,rfl⟩
 rw [hz]
 dsimp only [rhH,aT]
 refine ACallL.of_ev af Tryz.func35 rfl (fun a w=>Tryz.call35 a w) (congrArg Array.toList Tryz.results35) Tryz.ntmps35 fun B hB=>?_
 ((conv=>whnf);(repeat' ((first|refine gT ?_|((with_reducible refine ai ?_ ?_);focus (simp;done))|((with_reducible refine aj ?_ ?_);focus (simp;done))|(with_reducible refine ab (fun _=>?_) (fun _=>?_))|(((with_reducible refine qco (cC) [] [(0,0)] [] [(1,3),(2,4),(3,5),(4,6)] [(3,.uniq),(4,.uniq),(5,.uniq),(6,.uniq)] (.agg [.glist 3 16 (l.map (cnG 4 5 6)),.val (.int .i64 count)]) ?_);refine pD ?_)))<;>(conv=>whnf))))
 refine qAW.loopS (by simp only [spine,List.cons_append,List.nil_append,List.append_assoc];rfl) (X:=Nat) (fun k=>ap 219 [(1,.val (.int .i64 ip)),(3,.ptr 1 0 0),(5,.ptr 2 0 0),(6,.val (.pointer none)),(7,.ptr 7 0 0),(8,.val (.int .i64 (synN (l.take k)))),(9,.val (.int .i64 k))])
  (fun k=>[.perm,.live ⟨2,24,[[.list 0 16 (l.map (cnR 0)),.val (.int .i64 count)]]⟩,.live ⟨7,39,[sgR 0 s]⟩,.uniq,.uniq,.uniq,.uniq,hsO [.glist 3 16 (l.map (cnG 4 5 6)),.val (.int .i64 count),.glist 8 8 [],.glist 10 3 []],.uniq,.uniq,.uniq,.uniq]) (fun k=>k≤i) (fun k=>i - k) 0 (Nat.zero_le _) ?_ ?_
 ·(refine qcv hB [(1,1),(2,2),(7,7)] [(0,0),(3,3),(4,4),(5,5),(6,6)] [] ?_;repeat' (with_reducible first|exact trivial|refine And.intro ?_ ?_))
  all_goals first|rfl|exact ek rfl (aK rfl rfl rfl _)|(exact ao)|trace_state
 ·rintro E k hk hE
  have hil:=(List.getElem?_eq_some_iff.1 hci).1
  have hlt:k < l.length:=by omega
  obtain ⟨d,hd⟩ : ∃ p,l[k]?=some p:=⟨_,List.getElem?_eq_getElem hlt⟩
  have hrow:(l.map (cnR 0))[(k:Int).toNat]?=some (cnR 0 d):=by simp [hd]
  have p1:=al d.out
  have p2:=ar d.parts
  have w:=IntWalk.i64_in ((k:Int) + 1) (by omega)
  have hdok:=(H.ok d (List.mem_of_getElem? hd)).1
  have cF:=l7 d s
  dsimp only [sgR,sgL,cnR,cnL] at cF
  have hsn:synN (l.take (k + 1))=synN (l.take k) + (if d.st=1 then 1 else 0):=by
   unfold synN
   rw [bj hd,List.filter_append,List.length_append]
   by_cases h1:d.st=1<;>simp [h1]
  have hle:synN (l.take k)≤k:=by
   unfold synN
   exact Nat.le_trans (List.length_filter_le _ _) (by simp;omega)
  have w2:=IntWalk.i64_in ((synN (l.take k):Nat) + 1) (by omega)
  (try dsimp only)
  refine qAWs.cut af 2 (by simp only [List.take_succ_cons,List.take_zero];rfl) (by simp only [List.drop_succ_cons,List.drop_zero];rfl) (by simp only [aJ];rfl) rfl (X:=Unit) (fun _=>ap 219 [(1,.val (.int .i64 ip)),(3,.ptr 1 0 0),(5,.ptr 2 0 0),(6,.val (.pointer none)),(7,.ptr 7 0 0),(8,.val (.int .i64 (synN (l.take k)))),(9,.val (.int .i64 k))]) (fun _=>[.perm,.live ⟨2,24,[[.list 0 16 (l.map (cnR 0)),.val (.int .i64 count)]]⟩,.live ⟨7,39,[sgR 0 s]⟩,.uniq,.uniq,.uniq,.uniq,hsO [.glist 3 16 (l.map (cnG 4 5 6)),.val (.int .i64 count),.glist 8 8 [],.glist 10 3 []],.uniq,.uniq,.uniq,.uniq]) (fun _=>True) ?_ ?_
  ·((conv=>whnf);(repeat' ((first|refine gT ?_|((with_reducible refine ai ?_ ?_);focus (simp [hlt];done))|((with_reducible refine aj ?_ ?_);focus (simp [hlt];done))|(with_reducible refine ab (fun _=>?_) (fun _=>?_)))<;>(conv=>whnf))))
   refine ⟨(),trivial,?_⟩
   (refine qcv hB [(1,1),(2,2),(7,7)] [(0,0),(3,3),(4,4),(5,5),(6,6),(8,8),(9,9),(10,10),(11,11)] [] ?_;repeat' (with_reducible first|exact trivial|refine And.intro ?_ ?_))
   all_goals (try exact bU)
  rintro ⟨⟩ -
  (try dsimp only)
  refine qAWs.block (by simp only [spine,List.cons_append,List.nil_append,List.append_assoc];rfl) ?_
  rintro E1 hE1
  refine qAWs.cut af 3 (by simp only [List.take_succ_cons,List.take_zero];rfl) (by simp only [List.drop_succ_cons,List.drop_zero];rfl) (by simp only [aJ];rfl) rfl (X:=Unit) (fun _=>ap 219 [(1,.val (.int .i64 ip)),(3,.ptr 1 0 0),(5,.ptr 2 0 0),(6,.val (.pointer none)),(7,.ptr 7 0 0),(8,.val (.int .i64 (synN (l.take (k + 1))))),(9,.val (.int .i64 k)),(10,.ptr 12 0 0)]) (fun _=>[.perm,.live ⟨2,24,[[.list 0 16 (l.map (cnR 0)),.val (.int .i64 count)]]⟩,.live ⟨7,39,[sgR 0 s]⟩,.uniq,.uniq,.uniq,.uniq,hsO [.glist 3 16 (l.map (cnG 4 5 6)),.val (.int .i64 count),.glist 8 8 [],.glist 10 3 []],.uniq,.uniq,.uniq,.uniq,.live ⟨16,50,[cnR 0 d]⟩]) (fun _=>True) ?_ ?_
  ·rw [hsn]
   by_cases h1:d.st=1
   ·rw [if_pos h1]
    ((conv=>whnf);(repeat' ((first|refine gT ?_|((with_reducible refine ai ?_ ?_);focus (simp [h1];done))|((with_reducible refine aj ?_ ?_);focus (simp [h1];done))|(with_reducible refine ab (fun _=>?_) (fun _=>?_))|(refine ak (idxL rfl rfl rfl rfl rfl rfl (by omega) hrow) ?_))<;>(conv=>whnf))))
    refine ⟨(),trivial,?_⟩
    (refine qcv hB [(1,1),(2,2),(7,7),(12,12)] [(0,0),(3,3),(4,4),(5,5),(6,6),(8,8),(9,9),(10,10),(11,11)] [] ?_;repeat' (with_reducible first|exact trivial|refine And.intro ?_ ?_))
    all_goals (try (first|(simp [w2];done)))
    all_goals (try exact bU)
   ·rw [if_neg h1]
    ((conv=>whnf);(repeat' ((first|refine gT ?_|((with_reducible refine ai ?_ ?_);focus (simp [h1];done))|((with_reducible refine aj ?_ ?_);focus (simp [h1];done))|(with_reducible refine ab (fun _=>?_) (fun _=>?_))|(refine ak (idxL rfl rfl rfl rfl rfl rfl (by omega) hrow) ?_))<;>(conv=>whnf))))
    refine ⟨(),trivial,?_⟩
    (refine qcv hB [(1,1),(2,2),(7,7),(12,12)] [(0,0),(3,3),(4,4),(5,5),(6,6),(8,8),(9,9),(10,10),(11,11)] [] ?_;repeat' (with_reducible first|exact trivial|refine And.intro ?_ ?_))
    all_goals (try exact bU)
  rintro ⟨⟩ -
  (try dsimp only)
  have hhis:=pv (ip:=ip) (c:=d) hs hdok.port
  obtain ⟨u1,hu1⟩ : ∃ b,(d.ip != ip)=b:=⟨_,rfl⟩
  obtain ⟨u2,hu2⟩ : ∃ b,fc d s=b:=⟨_,rfl⟩
  rw [hu2] at hhis cF
  have hu3:(d.ip == ip) = !u1:=by rw [← hu1,bne,Bool.not_not]
  rw [hu3] at hhis
  by_cases hki:k=i
  ·subst hki
   rw [hci] at hd
   cases hd
   have hp:hisB ip s c=true:=by
    obtain ⟨_,h2,_⟩:=List.findIdx?_eq_some_iff_getElem.1 hi
    rwa [(List.getElem?_eq_some_iff.1 hci).2] at h2
   rw [hp] at hhis
   have hu1' : u1=false:=by cases u1<;>cases u2<;>first|rfl|cases hhis
   have hu2' : u2=true:=by cases u1<;>cases u2<;>first|rfl|cases hhis
   subst hu1' hu2'
   dsimp only [cnR,cnL,sgR,sgL] at cT
   refine qAWs.cut af 4 (by simp only [List.take_succ_cons,List.take_zero];rfl) (by simp only [List.drop_succ_cons,List.drop_zero];rfl) (by simp only [aJ];rfl) rfl (X:=Unit) (fun _=>ap 219 [(1,.val (.int .i64 ip)),(3,.ptr 1 0 0),(5,.ptr 2 0 0),(6,.val (.pointer none)),(7,.ptr 7 0 0),(9,.val (.int .i64 k)),(10,.ptr 12 0 0),(11,.ptr 13 0 0),(12,.val (.int .i64 y.c.st))]) (fun _=>[.perm,.live ⟨2,24,[[.list 0 16 (l.map (cnR 0)),.val (.int .i64 count)]]⟩,.live ⟨7,39,[sgR 0 s]⟩,.uniq,.uniq,.uniq,.uniq,hsO [.glist 3 16 (l.map (cnG 4 5 6)),.val (.int .i64 count),.glist 8 8 [],.glist 10 3 []],.uniq,.uniq,.uniq,.uniq,.live ⟨16,50,[cnR 0 c]⟩,rsO (rsN 14 15 16 17 18 19 y),.uniq,.uniq,.uniq,.uniq,.uniq,.uniq]) (fun _=>True) ?_ ?_
   ·((conv=>whnf);(repeat' ((first|refine gT ?_|((with_reducible refine ai ?_ ?_);focus (simp;done))|((with_reducible refine aj ?_ ?_);focus (simp;done))|(with_reducible refine ab (fun _=>?_) (fun _=>?_))|((with_reducible refine qcp (cF) ?_);refine pT ?_)|(((with_reducible refine qco (cT) [] [(0,0)] [] [(1,13),(2,14),(3,15),(4,16),(5,17),(6,18),(7,19)] [(13,rsO (rsN 14 15 16 17 18 19 y)),(14,.uniq),(15,.uniq),(16,.uniq),(17,.uniq),(18,.uniq),(19,.uniq)] (.ptr 13 0 0) ?_);refine pD ?_)))<;>(conv=>whnf))))
    refine ⟨(),trivial,?_⟩
    (refine qcv hB [(1,1),(2,2),(7,7),(12,12),(13,13)] [(0,0),(3,3),(4,4),(5,5),(6,6),(8,8),(9,9),(10,10),(11,11),(14,14),(15,15),(16,16),(17,17),(18,18),(19,19)] [] ?_;repeat' (with_reducible first|exact trivial|refine And.intro ?_ ?_))
    all_goals (try exact bU)
   rintro ⟨⟩ -
   (try dsimp only)
   refine qAWs.cut af 1 (by simp only [List.take_succ_cons,List.take_zero];rfl) (by simp only [List.drop_succ_cons,List.drop_zero];rfl) (by simp only [aJ];rfl) rfl (X:=Unit) (fun _=>ap 219 [(1,.val (.int .i64 ip)),(3,.ptr 1 0 0),(5,.ptr 2 0 0),(6,.val (.pointer none)),(7,.ptr 7 0 0),(9,.val (.int .i64 k)),(10,.ptr 12 0 0),(11,.ptr 13 0 0),(12,.val (.int .i64 y.c.st)),(13,.val (.bool (y.c.st == 5 || (y.c.st == 6 || y.c.st == 8))))]) (fun _=>[.perm,.live ⟨2,24,[[.list 0 16 (l.map (cnR 0)),.val (.int .i64 count)]]⟩,.live ⟨7,39,[sgR 0 s]⟩,.uniq,.uniq,.uniq,.uniq,hsO [.glist 3 16 (l.map (cnG 4 5 6)),.val (.int .i64 count),.glist 8 8 [],.glist 10 3 []],.uniq,.uniq,.uniq,.uniq,.live ⟨16,50,[cnR 0 c]⟩,rsO (rsN 14 15 16 17 18 19 y),.uniq,.uniq,.uniq,.uniq,.uniq,.uniq]) (fun _=>True) ?_ ?_
   ·have hw:(y.c.st == 5)=true∨(y.c.st == 5)=false∧((y.c.st == 6)=true∨(y.c.st == 6)=false∧((y.c.st == 8)=true∨(y.c.st == 8)=false)):=by
     cases (y.c.st == 5)<;>cases (y.c.st == 6)<;>cases (y.c.st == 8)<;>simp
    rcases hw with v1|⟨v1,v2|⟨v2,v3|v3⟩⟩
    all_goals
     rw [v1]
     (try rw [v2])
     (try rw [v3])
     simp only [Bool.true_or,Bool.false_or]
     ((conv=>whnf);(repeat' ((first|refine gT ?_|((with_reducible refine ai ?_ ?_);focus (simp;done))|((with_reducible refine aj ?_ ?_);focus (simp;done))|(with_reducible refine ab (fun _=>?_) (fun _=>?_)))<;>(conv=>whnf))))
     refine ⟨(),trivial,?_⟩
     (refine qcv hB [(1,1),(2,2),(7,7),(12,12),(13,13)] [(0,0),(3,3),(4,4),(5,5),(6,6),(8,8),(9,9),(10,10),(11,11),(14,14),(15,15),(16,16),(17,17),(18,18),(19,19)] [] ?_;repeat' (with_reducible first|exact trivial|refine And.intro ?_ ?_))
     all_goals (try (first|rfl|(rw [v1];done)|(rw [v2];done)|(rw [v3];done)))
     all_goals (try exact bU)
   rintro ⟨⟩ -
   (try dsimp only)
   obtain ⟨fin,hfin⟩ : ∃ b,(y.c.st == 5 || (y.c.st == 6 || y.c.st == 8))=b:=⟨_,rfl⟩
   rw [hfin]
   refine qAWs.cut af 1 (by simp only [List.take_succ_cons,List.take_zero];rfl) (by simp only [List.drop_succ_cons,List.drop_zero];rfl) (by simp only [aJ];rfl) rfl (X:=Unit) (fun _=>ap 219 [(1,.val (.int .i64 ip)),(3,.ptr 1 0 0),(5,.ptr 2 0 0),(6,.val (.pointer none)),(7,.ptr 7 0 0),(9,.val (.int .i64 k)),(10,.ptr 12 0 0),(11,.ptr 13 0 0),(12,.val (.int .i64 y.c.st)),(13,.val (.bool fin)),(14,.val (.bool (c.st == 1 || (c.st == 2 || (c.st == 3 || c.st == 4)))))]) (fun _=>[.perm,.live ⟨2,24,[[.list 0 16 (l.map (cnR 0)),.val (.int .i64 count)]]⟩,.live ⟨7,39,[sgR 0 s]⟩,.uniq,.uniq,.uniq,.uniq,hsO [.glist 3 16 (l.map (cnG 4 5 6)),.val (.int .i64 count),.glist 8 8 [],.glist 10 3 []],.uniq,.uniq,.uniq,.uniq,.live ⟨16,50,[cnR 0 c]⟩,rsO (rsN 14 15 16 17 18 19 y),.uniq,.uniq,.uniq,.uniq,.uniq,.uniq]) (fun _=>True) ?_ ?_
   ·have hw:(c.st == 1)=true∨(c.st == 1)=false∧((c.st == 2)=true∨(c.st == 2)=false∧((c.st == 3)=true∨(c.st == 3)=false∧((c.st == 4)=true∨(c.st == 4)=false))):=by
     cases (c.st == 1)<;>cases (c.st == 2)<;>cases (c.st == 3)<;>cases (c.st == 4)<;>simp
    rcases hw with v1|⟨v1,v2|⟨v2,v3|⟨v3,v4|v4⟩⟩⟩
    all_goals
     rw [v1]
     (try rw [v2])
     (try rw [v3])
     (try rw [v4])
     simp only [Bool.true_or,Bool.false_or]
     ((conv=>whnf);(repeat' ((first|refine gT ?_|((with_reducible refine ai ?_ ?_);focus (simp;done))|((with_reducible refine aj ?_ ?_);focus (simp;done))|(with_reducible refine ab (fun _=>?_) (fun _=>?_)))<;>(conv=>whnf))))
     refine ⟨(),trivial,?_⟩
     (refine qcv hB [(1,1),(2,2),(7,7),(12,12),(13,13)] [(0,0),(3,3),(4,4),(5,5),(6,6),(8,8),(9,9),(10,10),(11,11),(14,14),(15,15),(16,16),(17,17),(18,18),(19,19)] [] ?_;repeat' (with_reducible first|exact trivial|refine And.intro ?_ ?_))
     all_goals (try (first|rfl|(rw [v1];done)|(rw [v2];done)|(rw [v3];done)|(rw [v4];done)))
     all_goals (try exact bU)
   rintro ⟨⟩ -
   (try dsimp only)
   obtain ⟨was,hwas⟩ : ∃ b,(c.st == 1 || (c.st == 2 || (c.st == 3 || c.st == 4)))=b:=⟨_,rfl⟩
   rw [hwas]
   have hee:e=(y.c.st == 0 || (fin && was)):=by rw [← he, ← hfin, ← hwas];rfl
   refine qAWs.cut af 1 (by simp only [List.take_succ_cons,List.take_zero];rfl) (by simp only [List.drop_succ_cons,List.drop_zero];rfl) (by simp only [aJ];rfl) rfl (X:=Unit) (fun _=>ap 219 [(1,.val (.int .i64 ip)),(3,.ptr 1 0 0),(5,.ptr 2 0 0),(6,.val (.pointer none)),(7,.ptr 7 0 0),(9,.val (.int .i64 k)),(11,.ptr 13 0 0),(15,.ptr 20 0 0)]) (fun _=>[.perm,.live ⟨2,24,[[.list 0 16 (l.map (cnR 0)),.val (.int .i64 count)]]⟩,.live ⟨7,39,[sgR 0 s]⟩,.uniq,.uniq,.uniq,.uniq,hsO [.glist 3 16 (l.map (cnG 4 5 6)),.val (.int .i64 count),.glist 8 8 [],.glist 10 3 []],.uniq,.uniq,.uniq,.uniq,.live ⟨16,50,[cnR 0 c]⟩,rsO (rsN 14 15 16 17 18 19 y),.uniq,.uniq,.uniq,.uniq,.uniq,.uniq,.live ⟨3,111,[[.val (.int .i64 c.link),bL 17 y.told,.val (.bool e)]]⟩]) (fun _=>True) ?_ ?_
   ·clear hfin hwas he
    subst hee
    rcases (by cases (y.c.st == 0)<;>simp:(y.c.st == 0)=true∨(y.c.st == 0)=false) with v1|v1
    all_goals
     rw [v1]
     cases fin<;>cases was
    all_goals
     simp only [Bool.true_or,Bool.false_or,Bool.and_true,Bool.and_false,Bool.and_self]
     ((conv=>whnf);(repeat' ((first|refine gT ?_|((with_reducible refine ai ?_ ?_);focus (simp;done))|((with_reducible refine aj ?_ ?_);focus (simp;done))|(with_reducible refine ab (fun _=>?_) (fun _=>?_)))<;>(conv=>whnf))))
     refine ⟨(),trivial,?_⟩
     (refine qcv hB [(1,1),(2,2),(7,7),(12,12),(13,13),(20,20)] [(0,0),(3,3),(4,4),(5,5),(6,6),(8,8),(9,9),(10,10),(11,11),(14,14),(15,15),(16,16),(17,17),(18,18),(19,19)] [] ?_;repeat' (with_reducible first|exact trivial|refine And.intro ?_ ?_))
     all_goals (try (first|rfl|exact RowsRen.one (.cons (.val _) (.cons (Ren.ll rfl _) (.cons (.val _) .nil)))|(rw [v1];exact RowsRen.one (.cons (.val _) (.cons (Ren.ll rfl _) (.cons (.val _) .nil))))))
     all_goals (try exact bU)
   rintro ⟨⟩ -
   (try dsimp only)
   have hh:(decide (0 < ((y.told.map bR).length:Int))=true∨decide (0 < ((y.told.map bR).length:Int))=false∧e=true)∧dR c.link y.told e=[⟨c.link,y.told,e⟩]∨(decide (0 < ((y.told.map bR).length:Int))=false∧e=false)∧dR c.link y.told e=[]:=by
    unfold dR
    cases e<;>cases y.told<;>simp
   refine qAWs.fin af (by simp only [aJ];rfl) ?_
   have hyl:=hS.cnt
   have hlk:=hS.e2
   have hcip:c.ip=ip:=by simpa using hu1
   have hpc : ∀ D:List Hd,putX ⟨⟨l,count⟩,[],D⟩ k y=⟨Ho.put ⟨l,count⟩ k y.c,toS ip y.out,D⟩:=fun D=>by unfold putX;rw [hlk,hcip];rfl
   rcases hh with ⟨hh,e2⟩|⟨⟨h1,h2⟩,e2⟩
   ·have cP:=gD ⟨⟨l,count⟩,[],[⟨c.link,y.told,e⟩]⟩ k y hil (by dsimp only;omega) hcl (by simp;omega)
    rw [e2] at hz
    rw [hpc,hz] at cP
    dsimp only [gk,gb,aT,rsN] at cP
    subst hE1
    subst hE
    rcases hh with h1|⟨h1,h2⟩
    all_goals
     ((conv=>whnf);(repeat' ((first|refine gT ?_|((with_reducible refine ai ?_ ?_);focus (simp;done))|((with_reducible refine aj ?_ ?_);focus (simp;done))|(with_reducible refine ab (fun _=>?_) (fun _=>?_))|(refine ak (apG (nb:=40) rfl rfl rfl rfl rfl rfl rfl rfl rfl rfl ⟨Nat.zero_lt_succ _,Nat.zero_lt_succ _,rfl⟩ rfl (by decide)) ?_)|(((with_reducible refine qcx (cP) [(1,7),(10,13)] [(0,0),(2,3),(3,4),(4,5),(5,6),(6,8),(7,9),(8,22),(9,17),(11,14),(12,15),(13,16),(14,17),(15,18),(16,19)] [] [(17,23),(18,24),(19,25),(20,26),(21,27),(22,28)] [(7,hsO (aT 23 24 25 26 27 28 22 17 z)),(3,.dead),(4,.dead),(5,.dead),(6,.dead),(8,.dead),(9,.dead),(13,.dead),(14,.dead),(15,.dead),(16,.dead),(19,.dead),(23,.uniq),(24,.uniq),(25,.uniq),(26,.uniq),(27,.uniq),(28,.uniq)] (.tup []) [(1,7)] [(17,23),(18,24),(19,25),(20,26),(21,27),(22,28),(0,0),(8,22),(9,17),(14,17),(15,18)] [(2,3),(3,4),(4,5),(5,6),(6,8),(7,9),(11,14),(12,15),(13,16),(16,19)] ?_);refine nw ?_)))<;>(conv=>whnf))))
     (refine qcv hB [(7,1)] [(0,0),(23,2),(24,3),(25,4),(26,5),(27,6),(28,7),(22,8),(17,9)] [] ?_;repeat' (with_reducible first|exact trivial|refine And.intro ?_ ?_))
     all_goals first|rfl  | exact aw rfl rfl rfl (aC rfl rfl rfl _) (ay rfl _) (aG rfl _)|trace_state
   ·have cP:=gD ⟨⟨l,count⟩,[],[]⟩ k y hil (by dsimp only;omega) hcl (by simp;omega)
    rw [e2] at hz
    rw [hpc,hz] at cP
    dsimp only [gk,gb,aT,rsN] at cP
    subst hE1
    subst hE
    ((conv=>whnf);(repeat' ((first|refine gT ?_|((with_reducible refine ai ?_ ?_);focus (simp;done))|((with_reducible refine aj ?_ ?_);focus (simp;done))|(with_reducible refine ab (fun _=>?_) (fun _=>?_))|(((with_reducible refine qcx (cP) [(1,7),(10,13)] [(0,0),(2,3),(3,4),(4,5),(5,6),(6,8),(7,9),(8,10),(9,11),(11,14),(12,15),(13,16),(14,17),(15,18),(16,19)] [] [(17,21),(18,22),(19,23),(20,24),(21,25),(22,26)] [(7,hsO (aT 21 22 23 24 25 26 10 11 z)),(3,.dead),(4,.dead),(5,.dead),(6,.dead),(8,.dead),(9,.dead),(13,.dead),(14,.dead),(15,.dead),(16,.dead),(19,.dead),(21,.uniq),(22,.uniq),(23,.uniq),(24,.uniq),(25,.uniq),(26,.uniq)] (.tup []) [(1,7)] [(17,21),(18,22),(19,23),(20,24),(21,25),(22,26),(0,0),(8,10),(9,11),(14,17),(15,18)] [(2,3),(3,4),(4,5),(5,6),(6,8),(7,9),(11,14),(12,15),(13,16),(16,19)] ?_);refine nw ?_)))<;>(conv=>whnf))))
    (refine qcv hB [(7,1)] [(0,0),(21,2),(22,3),(23,4),(24,5),(25,6),(26,7),(10,8),(11,9)] [] ?_;repeat' (with_reducible first|exact trivial|refine And.intro ?_ ?_))
    all_goals first|rfl  | exact aw rfl rfl rfl (aC rfl rfl rfl _) (ay rfl _) (aG rfl _)|trace_state
  ·have hno:hisB ip s d=false:=by
    obtain ⟨_,_,h3⟩:=List.findIdx?_eq_some_iff_getElem.1 hi
    have:=h3 k (by omega)
    rw [(List.getElem?_eq_some_iff.1 hd).2] at this
    simpa using this
   rw [hno] at hhis
   have hu:u1=true∨u1=false∧u2=false:=by cases u1<;>cases u2<;>first|(exact .inl rfl)|(exact .inr ⟨rfl,rfl⟩)|cases hhis
   refine qAWs.fin af (by simp only [aJ];rfl) ?_
   subst hE1
   subst hE
   rcases hu with rfl|⟨rfl,rfl⟩
   all_goals
    ((conv=>whnf);(repeat' ((first|refine gT ?_|((with_reducible refine ai ?_ ?_);focus (simp;done))|((with_reducible refine aj ?_ ?_);focus (simp;done))|(with_reducible refine ab (fun _=>?_) (fun _=>?_))|((with_reducible refine qcp (cF) ?_);refine pT ?_)|(refine qRest.go af (by simp only [aJ];rfl) ?_))<;>(conv=>whnf))))
    refine ⟨k + 1,by omega,by omega,?_⟩
    (refine qcv hB [(1,1),(2,2),(7,7)] [(0,0),(3,3),(4,4),(5,5),(6,6),(8,8),(9,9),(10,10),(11,11)] [] ?_;repeat' (with_reducible first|exact trivial|refine And.intro ?_ ?_))
    all_goals (try (first|(simp [w];done)))
    all_goals (try exact bU)
theorem fF {p q:Prop} (k:q) (h:Hold q→p:=by first|(intro hQ;refine And.intro ?_ ?_;(focus rfl);(conv=>whnf);(repeat (refine And.intro ?_ ?_;(focus (first|exact bA|(first|exact bl rfl rfl rfl _ rfl|exact aw rfl rfl rfl (aS rfl rfl rfl _) (ay rfl _) (aG rfl _)|exact aw rfl rfl rfl (aC rfl rfl rfl _) (ay rfl _) (aG rfl _)|exact aw rfl rfl rfl (aS rfl rfl rfl _) (ay (r:=8) rfl []) (aG (r:=10) rfl [])|exact aw rfl rfl rfl (aC rfl rfl rfl _) (ay rfl _) (aG (r:=10) rfl [])|exact aw rfl rfl rfl (aS rfl rfl rfl _) (ay (r:=8) rfl []) (aG rfl [_]))));(conv=>whnf)));(fail_if_success (with_reducible first|refine And.intro (bz ?_) ?_|refine And.intro (bD ?_) ?_));exact hQ.out)|fail):p:=h ⟨k⟩
theorem ky {p q:Prop} (k:q) (h:Hold q→p:=by first|(intro hQ;refine And.intro ?_ (And.intro ?_ (And.intro ?_ (And.intro ?_ ?_)));(focus kernel_rfl);(focus kernel_rfl);(focus kernel_rfl);(focus kernel_rfl);(conv=>whnf);(repeat (refine And.intro ?_ ?_;(focus (first|exact bA|(first|exact bl rfl rfl rfl _ rfl|exact aw rfl rfl rfl (aS rfl rfl rfl _) (ay rfl _) (aG rfl _)|exact aw rfl rfl rfl (aC rfl rfl rfl _) (ay rfl _) (aG rfl _)|exact aw rfl rfl rfl (aS rfl rfl rfl _) (ay (r:=8) rfl []) (aG (r:=10) rfl [])|exact aw rfl rfl rfl (aC rfl rfl rfl _) (ay rfl _) (aG (r:=10) rfl [])|exact aw rfl rfl rfl (aS rfl rfl rfl _) (ay (r:=8) rfl []) (aG rfl [_]))));(conv=>whnf)));(fail_if_success (with_reducible first|refine And.intro (bz ?_) ?_|refine And.intro (bD ?_) ?_));exact hQ.out)|fail):p:=h ⟨k⟩
theorem fq {p:Prop} (h:p:=by first|((first|rfl|exact ek rfl (aK rfl rfl rfl _)|exact iB rfl rfl rfl (aK rfl rfl rfl _)|exact RowsRen.one (lu rfl _)|(exact ao));done)|fail):p:=h
theorem mZ (l:List Cn) (count link:Int) (H:HoI ⟨l,count⟩) {i:Nat} {c:Cn} (ha:Ho.at_ ⟨l,count⟩ link=some i) (hci:l[i]?=some c) :
 ACallL Tryz.prog 28 [.agg (hoR ⟨l,count⟩),.val (.int .i64 link)] [.perm] (.tup [.ptr 1 0 0,.val (.int .i64 0)]) (rhH ⟨Ho.put ⟨l,count⟩ i (c.aborts).c,toS c.ip (c.aborts).out,[]⟩):=by
 have px:=aQ l
 have hl:=H.len
 dsimp only at hl
 have ll:(l.map (cnR 0)).length=l.length:=by simp
 have hcl : ∀ d∈l,aA d:=fun d hd=>(H.ok d hd).1.I.cnLen
 have cC:=ci ⟨l,count⟩ (by dsimp only;omega) hcl
 have hI:=(H.ok c (List.mem_of_getElem? hci)).1.I
 have cS:=m4 c ((bh c).2 hI)
 have hS:=(gF hI).2
 obtain ⟨y,hy⟩ : ∃ y,c.aborts=y:=⟨_,rfl⟩
 rw [hy] at cS hS ⊢
 have cF:=eW ⟨l,count⟩ link (by dsimp only;omega)
 rw [ha] at cF
 dsimp only [idxJ,hoR] at cF
 have hrow:(l.map (cnR 0))[(i:Int).toNat]?=some (cnR 0 c):=by simp [hci]
 have hlt:i < l.length:=(List.getElem?_eq_some_iff.1 hci).1
 have hn:decide ((i:Int) < 0)=false:=by simp
 have cP:=gD ⟨⟨l,count⟩,[],[]⟩ i y hlt (by dsimp only;omega) hcl (by have:=hS.cnt;simp;omega)
 obtain ⟨z,hz⟩ : ∃ z,(⟨Ho.put ⟨l,count⟩ i y.c,toS c.ip y.out,[]⟩:Hs)=z:=⟨_,rfl⟩
 have hpc:putX ⟨⟨l,count⟩,[],[]⟩ i y=z:=by rw [← hz];unfold putX;rw [hS.e2];rfl
 rw [hpc] at cP
 rw [hz]
 dsimp only [gk,gb,aT,rsN] at cP
 dsimp only [cnR,cnL] at cS
 dsimp only [hoR] at cC ⊢
 dsimp only [rhH,aT]
 refine ACallL.of_AWs Tryz.func28 rfl (fun a w=>Tryz.call28 a w) (congrArg Array.toList Tryz.results28) Tryz.ntmps28 (by simp only [spine,List.cons_append,List.nil_append,List.append_assoc];rfl) fun B hB=>?_
 refine qAWs.cut af 5 (by simp only [List.take_succ_cons,List.take_zero];rfl) (by simp only [List.drop_succ_cons,List.drop_zero];rfl) (by simp only [aJ];rfl) rfl (X:=Unit) (fun _=>ap 27 [(2,.ptr 1 0 0),(6,.val (.int .i64 i)),(7,.ptr 6 0 0)]) (fun _=>[.perm,.live ⟨2,24,[[.list 0 16 (l.map (cnR 0)),.val (.int .i64 count)]]⟩,.uniq,.uniq,.uniq,.uniq,hsO [.glist 2 16 (l.map (cnG 3 4 5)),.val (.int .i64 count),.glist 7 8 [],.glist 9 3 []],.uniq,.uniq,.uniq,.uniq]) (fun _=>True) ?_ ?_
 ·((conv=>whnf);(repeat' ((first|refine gT ?_|((with_reducible refine ai ?_ ?_);focus (simp [hlt];done))|((with_reducible refine aj ?_ ?_);focus (simp [hlt];done))|(with_reducible refine ab (fun _=>?_) (fun _=>?_))|((with_reducible refine qcp (cF) ?_);refine pT ?_)|(((with_reducible refine qco (cC) [] [(0,0)] [] [(1,2),(2,3),(3,4),(4,5)] [(2,.uniq),(3,.uniq),(4,.uniq),(5,.uniq)] (.agg [.glist 2 16 (l.map (cnG 3 4 5)),.val (.int .i64 count)]) ?_);refine fF ?_)))<;>(conv=>whnf))))
  refine ⟨(),trivial,?_⟩
  (refine qcv hB [(1,1),(6,6)] [(0,0),(2,2),(3,3),(4,4),(5,5)] [] ?_;repeat' (with_reducible first|exact trivial|refine And.intro ?_ ?_))
  all_goals (try exact fq)
 rintro ⟨⟩ -
 (try dsimp only)
 refine qAWs.fin af (by simp only [aJ];rfl) ?_
 ((conv=>whnf);(repeat' ((first|refine gT ?_|((with_reducible refine ai ?_ ?_);focus (simp [hlt];done))|((with_reducible refine aj ?_ ?_);focus (simp [hlt];done))|(with_reducible refine ab (fun _=>?_) (fun _=>?_))|(refine ak (idxL rfl rfl rfl rfl rfl rfl (by omega) hrow) ?_)|(((with_reducible refine qco (cS) [] [(0,0)] [] [(1,11),(2,12),(3,13),(4,14),(5,15),(6,16),(7,17)] [(11,rsO (rsN 12 13 14 15 16 17 y)),(12,.uniq),(13,.uniq),(14,.uniq),(15,.uniq),(16,.uniq),(17,.uniq)] (.ptr 11 0 0) ?_);refine fF ?_))|(((with_reducible refine qcx (cP) [(1,6),(10,11)] [(0,0),(2,2),(3,3),(4,4),(5,5),(6,7),(7,8),(8,9),(9,10),(11,12),(12,13),(13,14),(14,15),(15,16),(16,17)] [] [(17,18),(18,19),(19,20),(20,21),(21,22),(22,23)] [(6,hsO (aT 18 19 20 21 22 23 9 10 z)),(2,.dead),(3,.dead),(4,.dead),(5,.dead),(7,.dead),(8,.dead),(11,.dead),(12,.dead),(13,.dead),(14,.dead),(17,.dead),(18,.uniq),(19,.uniq),(20,.uniq),(21,.uniq),(22,.uniq),(23,.uniq)] (.tup []) [(1,6)] [(17,18),(18,19),(19,20),(20,21),(21,22),(22,23),(0,0),(8,9),(9,10),(14,15),(15,16)] [(2,2),(3,3),(4,4),(5,5),(6,7),(7,8),(11,12),(12,13),(13,14),(16,17)] ?_);refine ky ?_)))<;>(conv=>whnf))))
 (refine qcv hB [(6,1)] [(0,0),(18,2),(19,3),(20,4),(21,5),(22,6),(23,7),(9,8),(10,9)] [] ?_;repeat' (with_reducible first|exact trivial|refine And.intro ?_ ?_))
 all_goals first|rfl  | exact aw rfl rfl rfl (aC rfl rfl rfl _) (ay rfl _) (aG rfl _)|trace_state
theorem nD (l:List Cn) (count link:Int) (H:HoI ⟨l,count⟩) {i:Nat} {c:Cn} (ha:Ho.at_ ⟨l,count⟩ link=some i) (hci:l[i]?=some c) (he:c.closeE=0) :
 ACallL Tryz.prog 26 [.agg (hoR ⟨l,count⟩),.val (.int .i64 link)] [.perm] (.tup [.ptr 1 0 0,.val (.int .i64 0)]) (rhH ⟨Ho.put ⟨l,count⟩ i (c.closes).c,toS c.ip (c.closes).out,[]⟩):=by
 have px:=aQ l
 have hl:=H.len
 dsimp only at hl
 have ll:(l.map (cnR 0)).length=l.length:=by simp
 have hcl : ∀ d∈l,aA d:=fun d hd=>(H.ok d hd).1.I.cnLen
 have cC:=ci ⟨l,count⟩ (by dsimp only;omega) hcl
 have hI:=(H.ok c (List.mem_of_getElem? hci)).1.I
 have cS:=tE c ((bh c).2 hI) he
 have hS:=(ju hI he).2
 obtain ⟨y,hy⟩ : ∃ y,c.closes=y:=⟨_,rfl⟩
 rw [hy] at cS hS ⊢
 have cF:=eW ⟨l,count⟩ link (by dsimp only;omega)
 rw [ha] at cF
 dsimp only [idxJ,hoR] at cF
 have hrow:(l.map (cnR 0))[(i:Int).toNat]?=some (cnR 0 c):=by simp [hci]
 have hlt:i < l.length:=(List.getElem?_eq_some_iff.1 hci).1
 have hn:decide ((i:Int) < 0)=false:=by simp
 have cP:=gD ⟨⟨l,count⟩,[],[]⟩ i y hlt (by dsimp only;omega) hcl (by have:=hS.cnt;simp;omega)
 obtain ⟨z,hz⟩ : ∃ z,(⟨Ho.put ⟨l,count⟩ i y.c,toS c.ip y.out,[]⟩:Hs)=z:=⟨_,rfl⟩
 have hpc:putX ⟨⟨l,count⟩,[],[]⟩ i y=z:=by rw [← hz];unfold putX;rw [hS.e2];rfl
 rw [hpc] at cP
 rw [hz]
 dsimp only [gk,gb,aT,rsN] at cP
 dsimp only [cnR,cnL] at cS
 dsimp only [hoR] at cC ⊢
 dsimp only [rhH,aT]
 refine ACallL.of_AWs Tryz.func26 rfl (fun a w=>Tryz.call26 a w) (congrArg Array.toList Tryz.results26) Tryz.ntmps26 (by simp only [spine,List.cons_append,List.nil_append,List.append_assoc];rfl) fun B hB=>?_
 refine qAWs.cut af 8 (by simp only [List.take_succ_cons,List.take_zero];rfl) (by simp only [List.drop_succ_cons,List.drop_zero];rfl) (by simp only [aJ];rfl) rfl (X:=Unit) (fun _=>ap 36 [(2,.ptr 1 0 0),(6,.val (.int .i64 i)),(7,.ptr 11 0 0),(9,.ptr 6 0 0)]) (fun _=>[.perm,.live ⟨2,24,[[.list 0 16 (l.map (cnR 0)),.val (.int .i64 count)]]⟩,.uniq,.uniq,.uniq,.uniq,hsO [.glist 2 16 (l.map (cnG 3 4 5)),.val (.int .i64 count),.glist 7 8 [],.glist 9 3 []],.uniq,.uniq,.uniq,.uniq,rsO (rsN 12 13 14 15 16 17 y),.uniq,.uniq,.uniq,.uniq,.uniq,.uniq]) (fun _=>True) ?_ ?_
 ·((conv=>whnf);(repeat' ((first|refine gT ?_|((with_reducible refine ai ?_ ?_);focus (simp [hlt];done))|((with_reducible refine aj ?_ ?_);focus (simp [hlt];done))|(with_reducible refine ab (fun _=>?_) (fun _=>?_))|((with_reducible refine qcp (cF) ?_);refine pT ?_)|(refine ak (idxL rfl rfl rfl rfl rfl rfl (by omega) hrow) ?_)|(((with_reducible refine qco (cS) [] [(0,0)] [] [(1,2),(2,3),(3,4),(4,5),(5,6),(6,7),(7,8)] [(2,rsO (rsN 3 4 5 6 7 8 y)),(3,.uniq),(4,.uniq),(5,.uniq),(6,.uniq),(7,.uniq),(8,.uniq)] (.tup [.ptr 2 0 0,.val (.int .i64 0)]) ?_);refine fF ?_))|(((with_reducible refine qco (cC) [] [(0,0)] [] [(1,9),(2,10),(3,11),(4,12)] [(9,.uniq),(10,.uniq),(11,.uniq),(12,.uniq)] (.agg [.glist 9 16 (l.map (cnG 10 11 12)),.val (.int .i64 count)]) ?_);refine fF ?_)))<;>(conv=>whnf))))
  refine ⟨(),trivial,?_⟩
  (refine qcv hB [(1,1),(2,11),(13,6)] [(0,0),(3,12),(4,13),(5,14),(6,15),(7,16),(8,17),(9,2),(10,3),(11,4),(12,5)] [] ?_;repeat' (with_reducible first|exact trivial|refine And.intro ?_ ?_))
  all_goals (try exact fq)
 rintro ⟨⟩ -
 (try dsimp only)
 refine qAWs.fin af (by simp only [aJ];rfl) ?_
 ((conv=>whnf);(repeat' ((first|refine gT ?_|((with_reducible refine ai ?_ ?_);focus (simp [hlt];done))|((with_reducible refine aj ?_ ?_);focus (simp [hlt];done))|(with_reducible refine ab (fun _=>?_) (fun _=>?_))|(((with_reducible refine qcx (cP) [(1,6),(10,11)] [(0,0),(2,2),(3,3),(4,4),(5,5),(6,7),(7,8),(8,9),(9,10),(11,12),(12,13),(13,14),(14,15),(15,16),(16,17)] [] [(17,18),(18,19),(19,20),(20,21),(21,22),(22,23)] [(6,hsO (aT 18 19 20 21 22 23 9 10 z)),(2,.dead),(3,.dead),(4,.dead),(5,.dead),(7,.dead),(8,.dead),(11,.dead),(12,.dead),(13,.dead),(14,.dead),(17,.dead),(18,.uniq),(19,.uniq),(20,.uniq),(21,.uniq),(22,.uniq),(23,.uniq)] (.tup []) [(1,6)] [(17,18),(18,19),(19,20),(20,21),(21,22),(22,23),(0,0),(8,9),(9,10),(14,15),(15,16)] [(2,2),(3,3),(4,4),(5,5),(6,7),(7,8),(11,12),(12,13),(13,14),(16,17)] ?_);refine ky ?_)))<;>(conv=>whnf))))
 (refine qcv hB [(6,1)] [(0,0),(18,2),(19,3),(20,4),(21,5),(22,6),(23,7),(9,8),(10,9)] [] ?_;repeat' (with_reducible first|exact trivial|refine And.intro ?_ ?_))
 all_goals first|rfl  | exact aw rfl rfl rfl (aC rfl rfl rfl _) (ay rfl _) (aG rfl _)|trace_state
theorem o5 (l:List Cn) (count link:Int) (xs:List Int) (H:HoI ⟨l,count⟩) {i:Nat} {c:Cn} (ha:Ho.at_ ⟨l,count⟩ link=some i) (hci:l[i]?=some c) (he:c.sendE xs=0) :
 ACallL Tryz.prog 23 [.agg (hoR ⟨l,count⟩),.val (.int .i64 link),bL 0 xs] [.perm] (.tup [.ptr 1 0 0,.val (.int .i64 0)]) (rhH ⟨Ho.put ⟨l,count⟩ i (c.sends xs).c,toS c.ip (c.sends xs).out,[]⟩):=by
 have px:=aQ l
 have pz:=al xs
 have hl:=H.len
 dsimp only at hl
 have ll:(l.map (cnR 0)).length=l.length:=by simp
 have hcl : ∀ d∈l,aA d:=fun d hd=>(H.ok d hd).1.I.cnLen
 have cC:=ci ⟨l,count⟩ (by dsimp only;omega) hcl
 have hI:=(H.ok c (List.mem_of_getElem? hci)).1.I
 have cS:=wl c xs ((bh c).2 hI) he
 have hS:=(iN hI he).2
 obtain ⟨y,hy⟩ : ∃ y,c.sends xs=y:=⟨_,rfl⟩
 rw [hy] at cS hS ⊢
 have cF:=eW ⟨l,count⟩ link (by dsimp only;omega)
 rw [ha] at cF
 dsimp only [idxJ,hoR] at cF
 have hrow:(l.map (cnR 0))[(i:Int).toNat]?=some (cnR 0 c):=by simp [hci]
 have hlt:i < l.length:=(List.getElem?_eq_some_iff.1 hci).1
 have hn:decide ((i:Int) < 0)=false:=by simp
 have cP:=gD ⟨⟨l,count⟩,[],[]⟩ i y hlt (by dsimp only;omega) hcl (by have:=hS.cnt;simp;omega)
 obtain ⟨z,hz⟩ : ∃ z,(⟨Ho.put ⟨l,count⟩ i y.c,toS c.ip y.out,[]⟩:Hs)=z:=⟨_,rfl⟩
 have hpc:putX ⟨⟨l,count⟩,[],[]⟩ i y=z:=by rw [← hz];unfold putX;rw [hS.e2];rfl
 rw [hpc] at cP
 rw [hz]
 dsimp only [gk,gb,aT,rsN] at cP
 dsimp only [cnR,cnL] at cS
 dsimp only [hoR] at cC ⊢
 dsimp only [rhH,aT]
 refine ACallL.of_AWs Tryz.func23 rfl (fun a w=>Tryz.call23 a w) (congrArg Array.toList Tryz.results23) Tryz.ntmps23 (by simp only [spine,List.cons_append,List.nil_append,List.append_assoc];rfl) fun B hB=>?_
 refine qAWs.cut af 8 (by simp only [List.take_succ_cons,List.take_zero];rfl) (by simp only [List.drop_succ_cons,List.drop_zero];rfl) (by simp only [aJ];rfl) rfl (X:=Unit) (fun _=>ap 39 [(3,.ptr 1 0 0),(8,.val (.int .i64 i)),(9,.ptr 11 0 0),(11,.ptr 6 0 0)]) (fun _=>[.perm,.live ⟨2,24,[[.list 0 16 (l.map (cnR 0)),.val (.int .i64 count)]]⟩,.uniq,.uniq,.uniq,.uniq,hsO [.glist 2 16 (l.map (cnG 3 4 5)),.val (.int .i64 count),.glist 7 8 [],.glist 9 3 []],.uniq,.uniq,.uniq,.uniq,rsO (rsN 12 13 14 15 16 17 y),.uniq,.uniq,.uniq,.uniq,.uniq,.uniq]) (fun _=>True) ?_ ?_
 ·((conv=>whnf);(repeat' ((first|refine gT ?_|((with_reducible refine ai ?_ ?_);focus (simp [hlt];done))|((with_reducible refine aj ?_ ?_);focus (simp [hlt];done))|(with_reducible refine ab (fun _=>?_) (fun _=>?_))|((with_reducible refine qcp (cF) ?_);refine pT ?_)|(refine ak (idxL rfl rfl rfl rfl rfl rfl (by omega) hrow) ?_)|(((with_reducible refine qco (cS) [] [(0,0)] [] [(1,2),(2,3),(3,4),(4,5),(5,6),(6,7),(7,8)] [(2,rsO (rsN 3 4 5 6 7 8 y)),(3,.uniq),(4,.uniq),(5,.uniq),(6,.uniq),(7,.uniq),(8,.uniq)] (.tup [.ptr 2 0 0,.val (.int .i64 0)]) ?_);refine fF ?_))|(((with_reducible refine qco (cC) [] [(0,0)] [] [(1,9),(2,10),(3,11),(4,12)] [(9,.uniq),(10,.uniq),(11,.uniq),(12,.uniq)] (.agg [.glist 9 16 (l.map (cnG 10 11 12)),.val (.int .i64 count)]) ?_);refine fF ?_)))<;>(conv=>whnf))))
  refine ⟨(),trivial,?_⟩
  (refine qcv hB [(1,1),(2,11),(13,6)] [(0,0),(3,12),(4,13),(5,14),(6,15),(7,16),(8,17),(9,2),(10,3),(11,4),(12,5)] [] ?_;repeat' (with_reducible first|exact trivial|refine And.intro ?_ ?_))
  all_goals (try exact fq)
 rintro ⟨⟩ -
 (try dsimp only)
 refine qAWs.fin af (by simp only [aJ];rfl) ?_
 ((conv=>whnf);(repeat' ((first|refine gT ?_|((with_reducible refine ai ?_ ?_);focus (simp [hlt];done))|((with_reducible refine aj ?_ ?_);focus (simp [hlt];done))|(with_reducible refine ab (fun _=>?_) (fun _=>?_))|(((with_reducible refine qcx (cP) [(1,6),(10,11)] [(0,0),(2,2),(3,3),(4,4),(5,5),(6,7),(7,8),(8,9),(9,10),(11,12),(12,13),(13,14),(14,15),(15,16),(16,17)] [] [(17,18),(18,19),(19,20),(20,21),(21,22),(22,23)] [(6,hsO (aT 18 19 20 21 22 23 9 10 z)),(2,.dead),(3,.dead),(4,.dead),(5,.dead),(7,.dead),(8,.dead),(11,.dead),(12,.dead),(13,.dead),(14,.dead),(17,.dead),(18,.uniq),(19,.uniq),(20,.uniq),(21,.uniq),(22,.uniq),(23,.uniq)] (.tup []) [(1,6)] [(17,18),(18,19),(19,20),(20,21),(21,22),(22,23),(0,0),(8,9),(9,10),(14,15),(15,16)] [(2,2),(3,3),(4,4),(5,5),(6,7),(7,8),(11,12),(12,13),(13,14),(16,17)] ?_);refine ky ?_)))<;>(conv=>whnf))))
 (refine qcv hB [(6,1)] [(0,0),(18,2),(19,3),(20,4),(21,5),(22,6),(23,7),(9,8),(10,9)] [] ?_;repeat' (with_reducible first|exact trivial|refine And.intro ?_ ?_))
 all_goals first|rfl  | exact aw rfl rfl rfl (aC rfl rfl rfl _) (ay rfl _) (aG rfl _)|trace_state
theorem ms (l:List Cn) (count link:Int) (hl:l.length≤100000) (ha:Ho.at_ ⟨l,count⟩ link=none) :
 ACallL Tryz.prog 28 [.agg (hoR ⟨l,count⟩),.val (.int .i64 link)] [.perm] (.tup [.val (.pointer none),.val (.int .i64 3)]) [.perm]:=by
 have px:=aQ l
 have cF:=eW ⟨l,count⟩ link hl
 rw [ha] at cF
 dsimp only [idxJ,hoR] at cF ⊢
 refine ACallL.of_ev af Tryz.func28 rfl (fun a w=>Tryz.call28 a w) (congrArg Array.toList Tryz.results28) Tryz.ntmps28 fun B hB=>?_
 ((conv=>whnf);(repeat' ((first|refine gT ?_|((with_reducible refine ai ?_ ?_);focus (simp;done))|((with_reducible refine aj ?_ ?_);focus (simp;done))|(with_reducible refine ab (fun _=>?_) (fun _=>?_))|((with_reducible refine qcp (cF) ?_);refine pT ?_))<;>(conv=>whnf))))
 (refine qcv hB [] [(0,0)] [] ?_;repeat' (with_reducible first|exact trivial|refine And.intro ?_ ?_))
theorem mC (l:List Cn) (count link:Int) (hl:l.length≤100000) {e:Int} (h0:e≠0) (hE:Ho.withE ⟨l,count⟩ link Cn.closeE=e) :
 ACallL Tryz.prog 26 [.agg (hoR ⟨l,count⟩),.val (.int .i64 link)] [.perm] (.tup [.val (.pointer none),.val (.int .i64 e)]) [.perm]:=by
 have px:=aQ l
 have ll:(l.map (cnR 0)).length=l.length:=by simp
 have cF:=eW ⟨l,count⟩ link hl
 unfold Ho.withE at hE
 cases ha:Ho.at_ ⟨l,count⟩ link with
 | none =>
   rw [ha] at cF hE
   dsimp only at hE
   subst hE
   dsimp only [idxJ,hoR] at cF ⊢
   refine ACallL.of_ev af Tryz.func26 rfl (fun a w=>Tryz.call26 a w) (congrArg Array.toList Tryz.results26) Tryz.ntmps26 fun B hB=>?_
   ((conv=>whnf);(repeat' ((first|refine gT ?_|((with_reducible refine ai ?_ ?_);focus (simp;done))|((with_reducible refine aj ?_ ?_);focus (simp;done))|(with_reducible refine ab (fun _=>?_) (fun _=>?_))|((with_reducible refine qcp (cF) ?_);refine pT ?_))<;>(conv=>whnf))))
   (refine qcv hB [] [(0,0)] [] ?_;repeat' (with_reducible first|exact trivial|refine And.intro ?_ ?_))
 | some i =>
   rw [ha] at cF hE
   obtain ⟨c,hci,hp,hg⟩:=bV ha
   dsimp only at hE
   rw [hg] at hE
   have hrow:(l.map (cnR 0))[(i:Int).toNat]?=some (cnR 0 c):=by simp [hci]
   have hlt:i < l.length:=(List.getElem?_eq_some_iff.1 hci).1
   have hn:decide ((i:Int) < 0)=false:=by simp
   have he6:c.closeE=6:=by
    unfold Cn.closeE at hE ⊢
    cases hb:c.closing<;>cases hb2:(c.talks || c.st == 1)<;>rw [hb,hb2] at hE<;>first|rfl|exact absurd hE.symm h0
   have cS:=sA c he6
   rw [he6] at hE
   subst hE
   dsimp only [cnR,cnL] at cS
   have p1:=al c.out
   have p2:=ar c.parts
   dsimp only [idxJ,hoR] at cF ⊢
   refine ACallL.of_ev af Tryz.func26 rfl (fun a w=>Tryz.call26 a w) (congrArg Array.toList Tryz.results26) Tryz.ntmps26 fun B hB=>?_
   ((conv=>whnf);(repeat' ((first|refine gT ?_|((with_reducible refine ai ?_ ?_);focus (simp [hlt];done))|((with_reducible refine aj ?_ ?_);focus (simp [hlt];done))|(with_reducible refine ab (fun _=>?_) (fun _=>?_))|((with_reducible refine qcp (cF) ?_);refine pT ?_)|((with_reducible refine qcp (cS) ?_);refine pT ?_)|(refine ak (idxL rfl rfl rfl rfl rfl rfl (by omega) hrow) ?_))<;>(conv=>whnf))))
   (refine qcv hB [] [(0,0)] [] ?_;repeat' (with_reducible first|exact trivial|refine And.intro ?_ ?_))
theorem nv (l:List Cn) (count link:Int) (xs:List Int) (hl:l.length≤100000) (hc : ∀ c∈l,c.out.length≤8192) {e:Int} (h0:e≠0) (hE:Ho.withE ⟨l,count⟩ link (fun c=>c.sendE xs)=e) :
 ACallL Tryz.prog 23 [.agg (hoR ⟨l,count⟩),.val (.int .i64 link),bL 0 xs] [.perm] (.tup [.val (.pointer none),.val (.int .i64 e)]) [.perm]:=by
 have px:=aQ l
 have pz:=al xs
 have ll:(l.map (cnR 0)).length=l.length:=by simp
 have cF:=eW ⟨l,count⟩ link hl
 unfold Ho.withE at hE
 cases ha:Ho.at_ ⟨l,count⟩ link with
 | none =>
   rw [ha] at cF hE
   dsimp only at hE
   subst hE
   dsimp only [idxJ,hoR] at cF ⊢
   refine ACallL.of_ev af Tryz.func23 rfl (fun a w=>Tryz.call23 a w) (congrArg Array.toList Tryz.results23) Tryz.ntmps23 fun B hB=>?_
   ((conv=>whnf);(repeat' ((first|refine gT ?_|((with_reducible refine ai ?_ ?_);focus (simp;done))|((with_reducible refine aj ?_ ?_);focus (simp;done))|(with_reducible refine ab (fun _=>?_) (fun _=>?_))|((with_reducible refine qcp (cF) ?_);refine pT ?_))<;>(conv=>whnf))))
   (refine qcv hB [] [(0,0)] [] ?_;repeat' (with_reducible first|exact trivial|refine And.intro ?_ ?_))
 | some i =>
   rw [ha] at cF hE
   obtain ⟨c,hci,hp,hg⟩:=bV ha
   dsimp only at hE
   rw [hg] at hE
   have hrow:(l.map (cnR 0))[(i:Int).toNat]?=some (cnR 0 c):=by simp [hci]
   have hlt:i < l.length:=(List.getElem?_eq_some_iff.1 hci).1
   have hn:decide ((i:Int) < 0)=false:=by simp
   have cS:=tU c xs (hc c (List.mem_of_getElem? hci)) (by rw [hE];exact h0)
   rw [hE] at cS
   have h1:(e != 0)=true:=by simpa using h0
   dsimp only [cnR,cnL] at cS
   have p1:=al c.out
   have p2:=ar c.parts
   dsimp only [idxJ,hoR] at cF ⊢
   refine ACallL.of_ev af Tryz.func23 rfl (fun a w=>Tryz.call23 a w) (congrArg Array.toList Tryz.results23) Tryz.ntmps23 fun B hB=>?_
   ((conv=>whnf);(repeat' ((first|refine gT ?_|((with_reducible refine ai ?_ ?_);focus (simp [hlt];done))|((with_reducible refine aj ?_ ?_);focus (simp [hlt];done))|(with_reducible refine ab (fun _=>?_) (fun _=>?_))|((with_reducible refine qcp (cF) ?_);refine pT ?_)|((with_reducible refine qcp (cS) ?_);refine pT ?_)|(refine ak (idxL rfl rfl rfl rfl rfl rfl (by omega) hrow) ?_))<;>(conv=>whnf))))
   (refine qcv hB [] [(0,0)] [] ?_;repeat' (with_reducible first|exact trivial|refine And.intro ?_ ?_))
theorem lA {p q:Prop} (k:q) (h:Hold q→p:=by first|(intro hQ;refine And.intro ?_ ?_;(focus rfl);(conv=>whnf);(repeat (refine And.intro ?_ ?_;(focus (first|exact bA|(first|exact bl rfl rfl rfl _ rfl|exact aw rfl rfl rfl (aS rfl rfl rfl _) (ay rfl _) (aG rfl _)|exact aw rfl rfl rfl (aC rfl rfl rfl _) (ay rfl _) (aG rfl _))));(conv=>whnf)));(fail_if_success (with_reducible first|refine And.intro (bz ?_) ?_|refine And.intro (bD ?_) ?_));exact hQ.out)|fail):p:=h ⟨k⟩
theorem tZ {p q:Prop} (k:q) (h:Hold q→p:=by first|(intro hQ;refine And.intro ?_ (And.intro ?_ (And.intro ?_ (And.intro ?_ ?_)));(focus kernel_rfl);(focus kernel_rfl);(focus kernel_rfl);(focus kernel_rfl);(conv=>whnf);(repeat (refine And.intro ?_ ?_;(focus (first|exact bA|(first|exact bl rfl rfl rfl _ rfl|exact aw rfl rfl rfl (aS rfl rfl rfl _) (ay rfl _) (aG rfl _)|exact aw rfl rfl rfl (aC rfl rfl rfl _) (ay rfl _) (aG rfl _))));(conv=>whnf)));(fail_if_success (with_reducible first|refine And.intro (bz ?_) ?_|refine And.intro (bD ?_) ?_));exact hQ.out)|fail):p:=h ⟨k⟩
def jd (c:Cn):List Hd:=bif c.ticks.c.st == 0 then [⟨c.link,[],true⟩] else []
theorem jT (c:Cn) : ∀ a:List Cn,aq (a ++ [c])=((aq a).1 ++ (bif c.ticks.c.st == 0 then [] else [c.ticks.c]),(aq a).2.1 ++ toS c.ip c.ticks.out,(aq a).2.2 ++ jd c)
 | []=>by
   unfold jd
   cases h:(c.ticks.c.st == 0)<;>simp [aq,h]
 | d::a=>by
   rw [List.cons_append,aq,jT c a,aq]
   cases h:(d.ticks.c.st == 0)<;>simp
def fw (l:List Cn) (count:Int) (k:Nat):Hs:=⟨⟨(aq (l.take k)).1 ++ l.drop k,count⟩,(aq (l.take k)).2.1,(aq (l.take k)).2.2⟩
theorem vF (l:List Cn) (count:Int):fw l count 0=⟨⟨l,count⟩,[],[]⟩:=rfl
theorem sJ (l:List Cn) (count:Int):fw l count l.length=Ho.tick ⟨l,count⟩:=by
 unfold fw Ho.tick
 simp
theorem qn {l:List Cn} {count:Int} {k:Nat} {c:Cn} (hc:l[k]?=some c) (he:c.ticks.c.ip=c.ip) :
 putX ⟨⟨(aq (l.take k)).1 ++ l.drop k,count⟩,(aq (l.take k)).2.1,(aq (l.take k)).2.2 ++ jd c⟩ (aq (l.take k)).1.length c.ticks=fw l count (k + 1):=by
 unfold putX fw
 rw [bj hc,jT,he]
 have hlt:(aq (l.take k)).1.length < ((aq (l.take k)).1 ++ l.drop k).length:=by
  have:=(List.getElem?_eq_some_iff.1 hc).1
  simp;omega
 have h1:(Ho.put ⟨(aq (l.take k)).1 ++ l.drop k,count⟩ (aq (l.take k)).1.length c.ticks.c)=⟨((aq (l.take k)).1 ++ (bif c.ticks.c.st == 0 then [] else [c.ticks.c])) ++ l.drop (k + 1),count⟩:=by
  have h2:=s9 ⟨(aq (l.take k)).1 ++ l.drop k,count⟩ (aq (l.take k)).1.length c.ticks.c hlt
  have h3:(Ho.put ⟨(aq (l.take k)).1 ++ l.drop k,count⟩ (aq (l.take k)).1.length c.ticks.c).count=count:=rfl
  cases hp:(Ho.put ⟨(aq (l.take k)).1 ++ l.drop k,count⟩ (aq (l.take k)).1.length c.ticks.c) with
  | mk a b =>
    rw [hp] at h2 h3
    dsimp only at h2 h3
    subst h3
    rw [h2,List.take_left,bI hc,show (aq (l.take k)).1 ++ c::l.drop (k + 1)=((aq (l.take k)).1 ++ [c]) ++ l.drop (k + 1) by simp,List.drop_append_of_le_length (by simp),List.append_assoc]
    simp
 rw [h1]
theorem l8 : ∀ l:List Cn,(aq l).2.2.length≤l.length
 | []=>by simp [aq]
 | c::l=>by
   have:=l8 l
   unfold aq
   dsimp only
   cases (c.ticks.c.st == 0)<;>simp<;>omega
theorem li : ∀ l:List Cn,(∀ c∈l,CnI c)→(aq l).2.1.length≤8200 * l.length
 | [],_=>by simp [aq]
 | c::l,h=>by
   have h1:=li l fun d hd=>h d (by simp [hd])
   have h2:=(fm (h c (by simp))).2.cnt
   unfold aq toS
   dsimp only
   simp only [List.length_append,List.length_map,List.length_cons]
   omega
theorem qo {l:List Cn} {count:Int} (H:HoI ⟨l,count⟩) {k:Nat} {c:Cn} (hc:l[k]?=some c):Ho.at_ ⟨(aq (l.take k)).1 ++ l.drop k,count⟩ c.link=some (aq (l.take k)).1.length:=by
 unfold Ho.at_
 refine nL (c:=c) (fun j d hj hd=>?_) ?_ (by simp)
 ·rw [List.getElem?_append_left hj] at hd
  obtain ⟨x,hx,hdx,_⟩:=dY _ d (List.mem_of_getElem? hd)
  have hxl:x∈l:=List.mem_of_mem_take hx
  have hS:=(fm (H.ok x hxl).1.I).2
  have h1:d.link=x.link:=by rw [hdx];exact hS.e1
  have h2:x.link < c.link:=by
   have hup:=H.up
   dsimp only at hup
   rw [← List.take_append_drop k l,List.pairwise_append] at hup
   exact hup.2.2 x hx c (by rw [bI hc];simp)
  rw [h1]
  simp;omega
 ·rw [List.getElem?_append_right (Nat.le_refl _),Nat.sub_self,List.getElem?_drop,Nat.add_zero]
  exact hc
theorem wq {L I F:Prs} {h:Hp} {t t' : Nat} {link:Int} (h0:I.has t t' = true) (l:List Hd):RowsRen (qOf L I F) h (l.map (hdR t) ++ [[.val (.int .i64 link),.val (.slice none 0 0),.val (.bool true)]]) ((l ++ [(⟨link,[],true⟩:Hd)]).map (hdR t')) :=
 RowsRen.castR (b:=l.map (hdR t') ++ [hdR t' (⟨link,[],true⟩:Hd)]) (by simp) (RowsRen.app (aG h0 l) (RowsRen.one (.cons (.val _) (.cons (Ren.vnil _ _) (.cons (.val _) .nil)))))
theorem xu {L I F:Prs} {h:Hp} {c c' s' h' : Nat} {count:Int} {C C' : List (List AV)} (h0:I.has c c' = true) (r1:RowsRen (qOf L I F) h C C') :
 RowsRen (qOf L I F) h [[.glist c 16 C,.val (.int .i64 count),.val (.slice none 0 0),.val (.slice none 0 0)]] [[.glist c' 16 C', .val (.int .i64 count),.glist s' 8 [],.glist h' 3 []]] :=
 RowsRen.one (.cons (Ren.glR h0 r1) (.cons (.val _) (.cons (Ren.vgnil _ _) (.cons (Ren.vgnil _ _) .nil))))
theorem ct {p:Prop} (h:p:=by first|((first|rfl|exact xu rfl (aS rfl rfl rfl _)|exact aw rfl rfl rfl (aC rfl rfl rfl _) (ay rfl _) (aG rfl _)|exact aw rfl rfl rfl (aC rfl rfl rfl _) (ay rfl _) (wq rfl _)|(exact ao));done)|fail):p:=h
theorem oM (l:List Cn) (count:Int) (H:HoI ⟨l,count⟩):ACallL Tryz.prog 30 [.agg (hoR ⟨l,count⟩)] [.perm] (.ptr 1 0 0) (rhH (Ho.tick ⟨l,count⟩)):=by
 have px:=aQ l
 have hl:=H.len
 dsimp only at hl
 have ll:(l.map (cnR 0)).length=l.length:=by simp
 have hcl : ∀ d∈l,aA d:=fun d hd=>(H.ok d hd).1.I.cnLen
 have cC:=ci ⟨l,count⟩ (by dsimp only;omega) hcl
 rw [← sJ]
 dsimp only [hoR] at cC ⊢
 dsimp only [rhH]
 refine ACallL.of_ev af Tryz.func30 rfl (fun a w=>Tryz.call30 a w) (congrArg Array.toList Tryz.results30) Tryz.ntmps30 fun B hB=>?_
 ((conv=>whnf);(repeat' ((first|refine gT ?_|((with_reducible refine ai ?_ ?_);focus (simp;done))|((with_reducible refine aj ?_ ?_);focus (simp;done))|(with_reducible refine ab (fun _=>?_) (fun _=>?_))|(((with_reducible refine qco (cC) [] [(0,0)] [] [(1,2),(2,3),(3,4),(4,5)] [(2,.uniq),(3,.uniq),(4,.uniq),(5,.uniq)] (.agg [.glist 2 16 (l.map (cnG 3 4 5)),.val (.int .i64 count)]) ?_);refine lA ?_)))<;>(conv=>whnf))))
 refine qAW.loopS (by simp only [spine,List.cons_append,List.nil_append,List.append_assoc];rfl) (X:=Nat) (fun k=>ap 59 [(1,.ptr 1 0 0),(3,.ptr 2 0 0),(4,.val (.int .i64 k))])
  (fun k=>[.perm,.live ⟨2,24,[[.list 0 16 (l.map (cnR 0)),.val (.int .i64 count)]]⟩,hsO (aT 3 4 5 6 7 8 9 10 (fw l count k)),.uniq,.uniq,.uniq,.uniq,.uniq,.uniq,.uniq,.uniq]) (fun k=>k≤l.length) (fun k=>l.length - k) 0 (Nat.zero_le _) ?_ ?_
 ·rw [vF]
  dsimp only [aT,List.map_nil]
  (refine qcv hB [(1,1),(6,2)] [(0,0),(2,3),(3,4),(4,5),(5,6)] [] ?_;repeat' (with_reducible first|exact trivial|refine And.intro ?_ ?_))
  all_goals (try exact ct)
 ·rintro E k hk hE
  by_cases hlt:k < l.length
  ·obtain ⟨c,hck⟩ : ∃ p,l[k]?=some p:=⟨_,List.getElem?_eq_getElem hlt⟩
   have hrow:(l.map (cnR 0))[(k:Int).toNat]?=some (cnR 0 c):=by simp [hck]
   have w:=IntWalk.i64_in ((k:Int) + 1) (by omega)
   have hI:=(H.ok c (List.mem_of_getElem? hck)).1.I
   have cT:=vE c ((bh c).2 hI)
   have hS:=(fm hI).2
   have hx:=qn (count:=count) hck hS.e2
   have hfd:=qo H hck
   have hd1:=fB (l.take k)
   have hd2:=l8 (l.take k)
   have ho1:=li (l.take k) fun d hd=>(H.ok d (List.mem_of_mem_take hd)).1.I
   have hlk:=hS.e1
   have hcn : ∀ d∈(aq (l.take k)).1 ++ l.drop k,aA d:=fun d hd=>by
    rcases List.mem_append.1 hd with hd|hd
    ·obtain ⟨x,hxm,hdx,_⟩:=dY _ d hd
     rw [hdx]
     exact (fm (H.ok x (List.mem_of_mem_take hxm)).1.I).1.cnLen
    ·exact hcl d (List.mem_of_mem_drop hd)
   have htk:(l.take k).length≤k:=by simp;omega
   have hht:jd c=bif c.ticks.c.st == 0 then [⟨c.link,[],true⟩] else []:=rfl
   unfold fw
   obtain ⟨y,hy⟩ : ∃ y,c.ticks=y:=⟨_,rfl⟩
   rw [hy] at cT hS hx hlk hht
   obtain ⟨dn,hdn⟩ : ∃ a,(aq (l.take k)).1=a:=⟨_,rfl⟩
   obtain ⟨S,hSs⟩ : ∃ a,(aq (l.take k)).2.1=a:=⟨_,rfl⟩
   obtain ⟨D,hD⟩ : ∃ a,(aq (l.take k)).2.2=a:=⟨_,rfl⟩
   rw [hdn] at hx hfd hd1 hcn ⊢
   rw [hSs] at hx ho1 ⊢
   rw [hD] at hx hd2 ⊢
   obtain ⟨r,hr⟩ : ∃ r,l.drop k=r:=⟨_,rfl⟩
   have hr1:r.length + k=l.length:=by rw [← hr];simp;omega
   rw [hr] at hx hfd hcn ⊢
   obtain ⟨D2,hD2⟩ : ∃ a,D ++ jd c=a:=⟨_,rfl⟩
   rw [hD2] at hx
   obtain ⟨z,hz⟩ : ∃ z,fw l count (k + 1)=z:=⟨_,rfl⟩
   rw [hz] at hx
   have cF:=eW ⟨dn ++ r,count⟩ c.link (by dsimp only;simp;omega)
   rw [hfd] at cF
   have cP:=gD ⟨⟨dn ++ r,count⟩,S,D2⟩ dn.length y (by dsimp only;simp;omega) (by dsimp only;simp;omega) hcn (by have:=hS.cnt;dsimp only;omega)
   rw [hx] at cP
   dsimp only [idxJ,hoR] at cF
   dsimp only [gk,gb,aT,rsN] at cP
   dsimp only [cnR,cnL] at cT
   have p1:=al c.out
   have p2:=ar c.parts
   (try dsimp only)
   refine qAWs.cut af 2 (by simp only [List.take_succ_cons,List.take_zero];rfl) (by simp only [List.drop_succ_cons,List.drop_zero];rfl) (by simp only [aJ];rfl) rfl (X:=Unit) (fun _=>ap 59 [(1,.ptr 1 0 0),(3,.ptr 2 0 0),(4,.val (.int .i64 k))]) (fun _=>[.perm,.live ⟨2,24,[[.list 0 16 (l.map (cnR 0)),.val (.int .i64 count)]]⟩,hsO (aT 3 4 5 6 7 8 9 10 ⟨⟨dn ++ r,count⟩,S,D⟩),.uniq,.uniq,.uniq,.uniq,.uniq,.uniq,.uniq,.uniq]) (fun _=>True) ?_ ?_
   ·((conv=>whnf);(repeat' ((first|refine gT ?_|((with_reducible refine ai ?_ ?_);focus (simp [hlt];done))|((with_reducible refine aj ?_ ?_);focus (simp [hlt];done))|(with_reducible refine ab (fun _=>?_) (fun _=>?_)))<;>(conv=>whnf))))
    refine ⟨(),trivial,?_⟩
    (refine qcv hB [(1,1),(2,2)] [(0,0),(3,3),(4,4),(5,5),(6,6),(7,7),(8,8),(9,9),(10,10)] [] ?_;repeat' (with_reducible first|exact trivial|refine And.intro ?_ ?_))
    all_goals (try exact ct)
   rintro ⟨⟩ -
   (try dsimp only)
   refine qAWs.block (by simp only [spine,List.cons_append,List.nil_append,List.append_assoc];rfl) ?_
   rintro E1 hE1
   refine qAWs.cut af 1 (by simp only [List.take_succ_cons,List.take_zero];rfl) (by simp only [List.drop_succ_cons,List.drop_zero];rfl) (by simp only [aJ];rfl) rfl (X:=Unit) (fun _=>ap 59 [(1,.ptr 1 0 0),(3,.ptr 2 0 0),(4,.val (.int .i64 k)),(5,.ptr 11 0 0)]) (fun _=>[.perm,.live ⟨2,24,[[.list 0 16 (l.map (cnR 0)),.val (.int .i64 count)]]⟩,hsO (aT 3 4 5 6 7 8 9 10 ⟨⟨dn ++ r,count⟩,S,D⟩),.uniq,.uniq,.uniq,.uniq,.uniq,.uniq,.uniq,.uniq,rsO (rsN 12 13 14 15 16 17 y),.uniq,.uniq,.uniq,.uniq,.uniq,.uniq]) (fun _=>True) ?_ ?_
   ·((conv=>whnf);(repeat' ((first|refine gT ?_|((with_reducible refine ai ?_ ?_);focus (simp [hlt];done))|((with_reducible refine aj ?_ ?_);focus (simp [hlt];done))|(with_reducible refine ab (fun _=>?_) (fun _=>?_))|(refine ak (idxL rfl rfl rfl rfl rfl rfl (by omega) hrow) ?_)|(((with_reducible refine qco (cT) [] [(0,0)] [] [(1,11),(2,12),(3,13),(4,14),(5,15),(6,16),(7,17)] [(11,rsO (rsN 12 13 14 15 16 17 y)),(12,.uniq),(13,.uniq),(14,.uniq),(15,.uniq),(16,.uniq),(17,.uniq)] (.ptr 11 0 0) ?_);refine lA ?_)))<;>(conv=>whnf))))
    refine ⟨(),trivial,?_⟩
    (refine qcv hB [(1,1),(2,2),(11,11)] [(0,0),(3,3),(4,4),(5,5),(6,6),(7,7),(8,8),(9,9),(10,10),(12,12),(13,13),(14,14),(15,15),(16,16),(17,17)] [] ?_;repeat' (with_reducible first|exact trivial|refine And.intro ?_ ?_))
    all_goals (try exact ct)
   rintro ⟨⟩ -
   (try dsimp only)
   refine qAWs.cut af 2 (by simp only [List.take_succ_cons,List.take_zero];rfl) (by simp only [List.drop_succ_cons,List.drop_zero];rfl) (by simp only [aJ];rfl) rfl (X:=Unit) (fun _=>ap 59 [(1,.ptr 1 0 0),(3,.ptr 2 0 0),(4,.val (.int .i64 k)),(5,.ptr 11 0 0)]) (fun _=>[.perm,.live ⟨2,24,[[.list 0 16 (l.map (cnR 0)),.val (.int .i64 count)]]⟩,hsO (aT 3 4 5 6 7 8 9 10 ⟨⟨dn ++ r,count⟩,S,D2⟩),.uniq,.uniq,.uniq,.uniq,.uniq,.uniq,.uniq,.uniq,rsO (rsN 12 13 14 15 16 17 y),.uniq,.uniq,.uniq,.uniq,.uniq,.uniq]) (fun _=>True) ?_ ?_
   ·cases hst:(y.c.st == 0) with
    | false =>
      rw [hst,cond_false] at hht
      have e2:D2=D:=by rw [← hD2,hht];simp
      subst e2
      ((conv=>whnf);(repeat' ((first|refine gT ?_|((with_reducible refine ai ?_ ?_);focus (simp;done))|((with_reducible refine aj ?_ ?_);focus (simp;done))|(with_reducible refine ab (fun _=>?_) (fun _=>?_)))<;>(conv=>whnf))))
      refine ⟨(),trivial,?_⟩
      (refine qcv hB [(1,1),(2,2),(11,11)] [(0,0),(3,3),(4,4),(5,5),(6,6),(7,7),(8,8),(9,9),(10,10),(12,12),(13,13),(14,14),(15,15),(16,16),(17,17)] [] ?_;repeat' (with_reducible first|exact trivial|refine And.intro ?_ ?_))
      all_goals (try exact ct)
    | true =>
      rw [hst,cond_true, ← hlk] at hht
      have e2:D2=D ++ [⟨y.c.link,[],true⟩]:=by rw [← hD2,hht]
      subst e2
      have hszD:(D.map (hdR 10)).length + 1≤1000:=by simp;omega
      ((conv=>whnf);(repeat' ((first|refine gT ?_|((with_reducible refine ai ?_ ?_);focus (simp;done))|((with_reducible refine aj ?_ ?_);focus (simp;done))|(with_reducible refine ab (fun _=>?_) (fun _=>?_))|(refine ak (apG (nb:=40) rfl rfl rfl rfl rfl rfl rfl rfl rfl rfl ⟨Nat.zero_lt_succ _,Nat.zero_lt_succ _,rfl⟩ rfl (Nat.le_trans (Nat.mul_le_mul_right _ hszD) (by decide))) ?_))<;>(conv=>whnf))))
      refine ⟨(),trivial,?_⟩
      (refine qcv hB [(1,1),(2,2),(11,11)] [(0,0),(3,3),(4,4),(5,5),(6,6),(7,7),(8,8),(19,9),(10,10),(12,12),(13,13),(14,14),(15,15),(16,16),(17,17)] [] ?_;repeat' (with_reducible first|exact trivial|refine And.intro ?_ ?_))
      all_goals (try exact ct)
   rintro ⟨⟩ -
   (try dsimp only)
   refine qAWs.fin af (by simp only [aJ];rfl) ?_
   subst hE1
   subst hE
   ((conv=>whnf);(repeat' ((first|refine gT ?_|((with_reducible refine ai ?_ ?_);focus (simp [hlt];done))|((with_reducible refine aj ?_ ?_);focus (simp [hlt];done))|(with_reducible refine ab (fun _=>?_) (fun _=>?_))|(refine ak (idxL rfl rfl rfl rfl rfl rfl (by omega) hrow) ?_)|(((with_reducible refine qcr (cF) [(0,0),(0,3),(0,4),(0,5),(0,6)] [] ?_);refine lA ?_))|(((with_reducible refine qcx (cP) [(1,2),(10,11)] [(0,0),(2,3),(3,4),(4,5),(5,6),(6,7),(7,8),(8,9),(9,10),(11,12),(12,13),(13,14),(14,15),(15,16),(16,17)] [] [(17,18),(18,19),(19,20),(20,21),(21,22),(22,23)] [(2,hsO (aT 18 19 20 21 22 23 9 10 z)),(3,.dead),(4,.dead),(5,.dead),(6,.dead),(7,.dead),(8,.dead),(11,.dead),(12,.dead),(13,.dead),(14,.dead),(17,.dead),(18,.uniq),(19,.uniq),(20,.uniq),(21,.uniq),(22,.uniq),(23,.uniq)] (.tup []) [(1,2)] [(17,18),(18,19),(19,20),(20,21),(21,22),(22,23),(0,0),(8,9),(9,10),(14,15),(15,16)] [(2,3),(3,4),(4,5),(5,6),(6,7),(7,8),(11,12),(12,13),(13,14),(16,17)] ?_);refine tZ ?_))|(refine qRest.go af (by simp only [aJ];rfl) ?_))<;>(conv=>whnf))))
   refine ⟨k + 1,by omega,by omega,?_⟩
   dsimp only
   rw [hz]
   (refine qcv hB [(1,1),(2,2)] [(0,0),(18,3),(19,4),(20,5),(21,6),(22,7),(23,8),(9,9),(10,10)] [] ?_;repeat' (with_reducible first|exact trivial|refine And.intro ?_ ?_))
   all_goals (try (first|(simp [w];done)))
   all_goals (try exact ct)
  ·have e:k=l.length:=by omega
   subst e
   obtain ⟨z,hz⟩ : ∃ z,fw l count l.length=z:=⟨_,rfl⟩
   rw [hz] at hE ⊢
   refine qAWs.fin af (by simp only [aJ];rfl) ?_
   subst hE
   ((conv=>whnf);(repeat' ((first|refine gT ?_|((with_reducible refine ai ?_ ?_);focus (simp [hlt];done))|((with_reducible refine aj ?_ ?_);focus (simp [hlt];done))|(with_reducible refine ab (fun _=>?_) (fun _=>?_)))<;>(conv=>whnf))))
   (refine qcv hB [(2,1)] [(0,0),(3,2),(4,3),(5,4),(6,5),(7,6),(8,7),(9,8),(10,9)] [] ?_;repeat' (with_reducible first|exact trivial|refine And.intro ?_ ?_))
   all_goals (try exact ct)
theorem wC (n:Int):ACallL Tryz.prog 141 [.val (.int .i64 n)] [.perm] (.val (.bool false)) [.perm]:=by
 refine ACallL.of_ev af Tryz.func141 rfl (fun a w=>Tryz.call141 a w) (congrArg Array.toList Tryz.results141) Tryz.ntmps141 fun B hB=>?_
 ((conv=>whnf);(repeat' ((first|refine gT ?_|(with_reducible refine ab (fun _=>?_) (fun _=>?_)))<;>(conv=>whnf))))
 all_goals (refine qcv hB [] [(0,0)] [] ?_;repeat' (with_reducible first|exact trivial|refine And.intro ?_ ?_))
 all_goals simp
def cmpI (a b:Int):Int:=if a < b then -1 else if b < a then 1 else 0
theorem sc (a b:Int):ACallL Tryz.prog 127 [.val (.int .i64 a),.val (.int .i64 b)] [.perm] (.val (.int .i64 (cmpI a b))) [.perm]:=by
 refine ACallL.of_ev af Tryz.func127 rfl (fun a w=>Tryz.call127 a w) (congrArg Array.toList Tryz.results127) Tryz.ntmps127 fun B hB=>?_
 ((conv=>whnf);(repeat' ((first|refine gT ?_|(with_reducible refine ab (fun _=>?_) (fun _=>?_))|((with_reducible refine qcp (wC _) ?_);refine pT ?_))<;>(conv=>whnf))))
 all_goals (refine qcv hB [] [(0,0)] [] ?_;repeat' (with_reducible first|exact trivial|refine And.intro ?_ ?_))
 all_goals (congr 1;simp_all [cmpI]<;>omega)
theorem qT (c:Cn) (t:Int):ACallL Tryz.prog 126 [.agg (cnR 0 c),.val (.int .i64 t)] [.perm] (.val (.int .i64 (cmpI c.link t))) [.perm]:=by
 have px:=al c.out
 have py:=ar c.parts
 refine ACallL.of_ev af Tryz.func126 rfl (fun a w=>Tryz.call126 a w) (congrArg Array.toList Tryz.results126) Tryz.ntmps126 fun B hB=>?_
 ((conv=>whnf);(repeat' ((first|refine gT ?_|(with_reducible refine ab (fun _=>?_) (fun _=>?_))|((with_reducible refine qcp (sc _ _) ?_);refine pT ?_))<;>(conv=>whnf))))
 all_goals (refine qcv hB [] [(0,0)] [] ?_;repeat' (with_reducible first|exact trivial|refine And.intro ?_ ?_))
def posC:List Cn→Int→Nat
 | [],_=>0
 | p::l,t=>if p.link < t then posC l t + 1 else 0
def srtC (l:List Cn):Prop:=l.Pairwise fun a b=>a.link < b.link
def bW (l:List Cn) (t:Int):Bool:=match l[posC l t]? with|some p=>p.link == t|none=>false
theorem pq (t:Int) : ∀ l:List Cn,posC l t≤l.length
 | []=>Nat.le_refl _
 | p::l=>by unfold posC;split;simpa using pq t l;simp
theorem fH (t:Int) : ∀ {l:List Cn} (hs:srtC l) {h:Nat} {p:Cn}, l[h]?=some p→(p.link < t ↔ h < posC l t)
 | [],_,h,p,hp=>by simp at hp
 | q::l,hs,h,p,hp=>by
   have hq:=(List.pairwise_cons.1 hs).1
   have hl:=(List.pairwise_cons.1 hs).2
   unfold posC
   cases h with
   | zero =>
     simp only [List.getElem?_cons_zero,Option.some.injEq] at hp
     subst hp
     split<;>simp_all
   | succ h =>
     simp only [List.getElem?_cons_succ] at hp
     have:=fH t hl hp
     have hlt:=hq p (List.mem_of_getElem? hp)
     split
     ·rw [this];omega
     ·simp;omega
theorem xK (i j:Nat) (h:i + j≤1000000000):IntKind.i64.wrap ((IntKind.u64.wrap (IntKind.i64.wrap ((i:Int) + (j:Int)))).fdiv (2 ^ min (Int.toNat 1) IntKind.u64.bits))=(((i + j) / 2:Nat):Int):=by
 have e:(2:Int) ^ min (Int.toNat 1) IntKind.u64.bits=2:=by decide
 have u : ∀ n:Int,IntKind.u64.wrap n=n % 18446744073709551616:=fun n=>IntKind.wrap_u64 n
 have a1:=IntWalk.i64_in ((i:Int) + (j:Int)) (by omega)
 have a2:=IntWalk.i64_in (((i:Int) + (j:Int)) / 2) (by omega)
 rw [e,a1,u,Int.emod_eq_of_lt (by omega) (by omega),Int.fdiv_eq_ediv_of_nonneg _ (by decide),a2]
 omega
theorem sU (l:List Cn) (t:Int) (hs:srtC l) (hl:l.length≤100000000):ACallL Tryz.prog 125 [.list 0 16 (l.map (cnR 0)),.val (.int .i64 t),.clo 126 []] [.perm] (.tup [.val (.int .i64 (posC l t)),.val (.bool (bW l t))]) [.perm]:=by
 have lb:(l.map (cnR 0)).length=l.length:=by simp
 have hpl:=pq t l
 refine ACallL.of_ev af Tryz.func125 rfl (fun a w=>Tryz.call125 a w) (congrArg Array.toList Tryz.results125) Tryz.ntmps125 fun B hB=>?_
 ((conv=>whnf);(repeat' ((first|refine gT ?_|(with_reducible refine ab (fun _=>?_) (fun _=>?_)))<;>(conv=>whnf))))
 refine qAW.loopE af (X:=Nat × Nat) (fun x=>ap 49 [(0,.list 0 16 (l.map (cnR 0))),(1,.val (.int .i64 t)),(2,.clo 126 []),(8,.val (.int .i64 (l.map (cnR 0)).length)),(9,.val (.int .i64 x.1)),(10,.val (.int .i64 x.2))]) (fun x=>[.perm])
  (fun x=>x.1≤posC l t∧posC l t≤x.2∧x.2≤l.length) (fun x=>x.2 - x.1) (0,l.length) ⟨Nat.zero_le _,hpl,Nat.le_refl _⟩ ?_ ?_
 ·(refine qcv hB [] [(0,0)] [] ?_;repeat' (with_reducible first|exact trivial|refine And.intro ?_ ?_))
  all_goals first|rfl|(simp;done)
 ·rintro E ⟨i,j⟩ ⟨h1,h2,h3⟩ hE
  dsimp only at h1 h2 h3 ⊢
  by_cases hlt:i < j
  ·obtain ⟨m,hm⟩ : ∃ m,(i + j) / 2=m:=⟨_,rfl⟩
   have hmid:=xK i j (by omega)
   rw [hm] at hmid
   obtain ⟨M,hM⟩ : ∃ M,IntKind.i64.wrap ((IntKind.u64.wrap (IntKind.i64.wrap ((i:Int) + (j:Int)))).fdiv (2 ^ min (Int.toNat 1) IntKind.u64.bits))=M:=⟨_,rfl⟩
   have hMm:M=m:=hM ▸ hmid
   obtain ⟨c,hp⟩ : ∃ p,l[m]?=some p:=⟨_,List.getElem?_eq_getElem (by omega)⟩
   have hrow:(l.map (cnR 0))[M.toNat]?=some (cnR 0 c):=by simp [hMm,hp]
   have hpos:=fH t hs hp
   have hge:0≤M:=by omega
   have w:=IntWalk.i64_in (M + 1) (by omega)
   by_cases hc:c.link < t
   ·have h4:=hpos.1 hc
    have hcmp:cmpI c.link t = -1:=by simp [cmpI,hc]
    have cC:=qT c t
    rw [hcmp] at cC
    subst hE
    ((conv=>whnf);(repeat' ((first|refine gT ?_|((with_reducible refine ai ?_ ?_);focus (simp [hlt];done))|((with_reducible refine aj ?_ ?_);focus (simp [hlt];done))|(with_reducible refine ab (fun _=>?_) (fun _=>?_))|((rw [hM]))|((with_reducible refine qcp (cC) ?_);refine pT ?_)|(refine ak (idxL rfl rfl rfl rfl rfl rfl hge hrow) ?_))<;>(conv=>whnf))))
    refine ⟨(m + 1,j),⟨by dsimp only;omega,by dsimp only;omega,h3⟩,by dsimp only;omega,?_⟩
    (refine qcv hB [] [(0,0)] [] ?_;repeat' (with_reducible first|exact trivial|refine And.intro ?_ ?_))
    all_goals first|rfl|(rw [w,hMm];simp;done)
   ·have h4 : ¬ m < posC l t:=fun h=>hc (hpos.2 h)
    obtain ⟨q,hq⟩ : ∃ q,cmpI c.link t=q:=⟨_,rfl⟩
    have hq0 : ¬ q < 0:=by rw [← hq];unfold cmpI;rw [if_neg hc];split<;>omega
    have cC:=qT c t
    rw [hq] at cC
    subst hE
    ((conv=>whnf);(repeat' ((first|refine gT ?_|((with_reducible refine ai ?_ ?_);focus (simp [hlt,hq0];done))|((with_reducible refine aj ?_ ?_);focus (simp [hlt,hq0];done))|(with_reducible refine ab (fun _=>?_) (fun _=>?_))|((rw [hM]))|((with_reducible refine qcp (cC) ?_);refine pT ?_)|(refine ak (idxL rfl rfl rfl rfl rfl rfl hge hrow) ?_))<;>(conv=>whnf))))
    refine ⟨(i,m),⟨h1,by dsimp only;omega,by dsimp only;omega⟩,by dsimp only;omega,?_⟩
    (refine qcv hB [] [(0,0)] [] ?_;repeat' (with_reducible first|exact trivial|refine And.intro ?_ ?_))
    all_goals first|rfl|(simp [hMm];done)
  ·have hij:i=posC l t:=by omega
   by_cases hend:i < l.length
   ·obtain ⟨c,hp⟩ : ∃ p,l[i]?=some p:=⟨_,List.getElem?_eq_getElem hend⟩
    have hrow:(l.map (cnR 0))[(i:Int).toNat]?=some (cnR 0 c):=by simp [hp]
    have hth:bW l t=(c.link == t):=by unfold bW;rw [← hij,hp]
    have hge : ¬ c.link < t:=fun h=>by have:=(fH t hs hp).1 h;omega
    have hcmp:(cmpI c.link t == 0)=(c.link == t):=by
     unfold cmpI
     rw [if_neg hge]
     by_cases h:t < c.link
     ·rw [if_pos h]
      have h5 : ¬ c.link=t:=by omega
      simp [h5]
     ·rw [if_neg h]
      have h5:c.link=t:=by omega
      simp [h5]
    subst hE
    ((conv=>whnf);(repeat' ((first|refine gT ?_|((with_reducible refine ai ?_ ?_);focus (simp [hlt,hend];done))|((with_reducible refine aj ?_ ?_);focus (simp [hlt,hend];done))|(with_reducible refine ab (fun _=>?_) (fun _=>?_))|((with_reducible refine qcp (qT _ _) ?_);refine pT ?_)|(refine ak (idxL rfl rfl rfl rfl rfl rfl (by omega) hrow) ?_))<;>(conv=>whnf))))
    (refine qcv hB [] [(0,0)] [] ?_;repeat' (with_reducible first|exact trivial|refine And.intro ?_ ?_))
    all_goals first|rfl|(rw [hth, ← hcmp];done)|(rw [hij];done)|skip
   ·have hth:bW l t=false:=by unfold bW;rw [← hij,List.getElem?_eq_none (by omega)]
    subst hE
    ((conv=>whnf);(repeat' ((first|refine gT ?_|((with_reducible refine ai ?_ ?_);focus (simp [hlt,hend];done))|((with_reducible refine aj ?_ ?_);focus (simp [hlt,hend];done))|(with_reducible refine ab (fun _=>?_) (fun _=>?_)))<;>(conv=>whnf))))
    (refine qcv hB [] [(0,0)] [] ?_;repeat' (with_reducible first|exact trivial|refine And.intro ?_ ?_))
    all_goals first|rfl|(rw [hth];done)|(rw [hij];done)|skip
theorem at_l (l:List Cn) (count t:Int) (hs:srtC l) (hl:l.length≤100000000):ACallL Tryz.prog 91 [.agg (hoR ⟨l,count⟩),.val (.int .i64 t)] [.perm] (.tup [.val (.int .i64 (posC l t)),.val (.bool (bW l t))]) [.perm]:=by
 have px:=aQ l
 have cB:=sU l t hs hl
 dsimp only [hoR]
 refine ACallL.of_ev af Tryz.func91 rfl (fun a w=>Tryz.call91 a w) (congrArg Array.toList Tryz.results91) Tryz.ntmps91 fun B hB=>?_
 ((conv=>whnf);(repeat' ((first|refine gT ?_|(with_reducible refine ab (fun _=>?_) (fun _=>?_))|(((with_reducible refine qcr (cB) [(0,0)] [] ?_);refine sT ?_)))<;>(conv=>whnf))))
 (refine qcv hB [] [(0,0)] [] ?_;repeat' (with_reducible first|exact trivial|refine And.intro ?_ ?_))
theorem pg {l:List Cn} {count t:Int} (hs:srtC l) (h:bW l t=true) : ∃ c,l[posC l t]?=some c∧c.link=t∧Ho.at_ ⟨l,count⟩ t=some (posC l t):=by
 unfold bW at h
 cases hp:l[posC l t]? with
 | none=>rw [hp] at h;cases h
 | some c =>
   rw [hp] at h
   have hc:c.link=t:=by simpa using h
   refine ⟨c,rfl,hc,?_⟩
   unfold Ho.at_
   obtain ⟨hlt,e⟩:=List.getElem?_eq_some_iff.1 hp
   rw [List.findIdx?_eq_some_iff_getElem]
   have hlt2:posC l t < l.length:=hlt
   refine ⟨hlt,by rw [e];simpa using hc,fun j hj=>?_⟩
   have:=(fH t hs (List.getElem?_eq_getElem (by omega:j < l.length))).2 hj
   simp only [beq_iff_eq,Bool.not_eq_true]
   intro e2
   omega
theorem pF {l:List Cn} {count t:Int} (hs:srtC l) (h:bW l t=false):Ho.at_ ⟨l,count⟩ t=none:=by
 unfold Ho.at_
 rw [List.findIdx?_eq_none_iff]
 intro c hc
 obtain ⟨j,hj⟩:=List.getElem?_of_mem hc
 by_cases e:c.link=t
 ·exfalso
  have h1:=fH t hs hj
  have h2 : ¬ j < posC l t:=fun x=>by have:=h1.2 x;omega
  have hjl:j < l.length:=(List.getElem?_eq_some_iff.1 hj).1
  have h3:posC l t=j:=by
   by_cases h4:posC l t < j
   ·have hp:=List.getElem?_eq_getElem (show posC l t < l.length by omega)
    have h5:=(fH t hs hp).1
    have h6 : ¬ (l[posC l t]'(by omega)).link < t:=fun x=>by have:=h5 x;omega
    unfold srtC at hs
    rw [List.pairwise_iff_getElem] at hs
    have h7:=hs (posC l t) j (by omega) hjl h4
    have h8:l[j]=c:=(List.getElem?_eq_some_iff.1 hj).2
    rw [h8] at h7
    omega
   ·omega
  unfold bW at h
  rw [h3,hj] at h
  simp [e] at h
 ·simpa using e
theorem eH {p q:Prop} (k:q) (h:Hold q→p:=by first|(intro hQ;refine And.intro ?_ ?_;(focus rfl);(conv=>whnf);(repeat (refine And.intro ?_ ?_;(focus (first|exact bA|(first|exact bl rfl rfl rfl _ rfl|exact hJ rfl rfl rfl rfl rfl rfl _ _ _|exact RowsRen.app (aK rfl rfl rfl _) gU)));(conv=>whnf)));(fail_if_success (with_reducible first|refine And.intro (bz ?_) ?_|refine And.intro (bD ?_) ?_));exact hQ.out)|fail):p:=h ⟨k⟩
abbrev hwA (y:Hs):AV := .tup [.agg [.glist 1 16 (y.h.conns.map (cnG 2 3 4)),.val (.int .i64 y.h.count)],.glist 5 8 (y.out.map (snG 6)),.val (.int .i64 0)]
abbrev hwH:List Own:=[.perm,.uniq,.uniq,.uniq,.uniq,.uniq,.uniq]
abbrev hwNo (e:Int):AV := .tup [noHo,.val (.slice none 0 0),.val (.int .i64 e)]
theorem uj (F:FuncId) (h:Ho) (link:Int) (hc : ∀ c∈h.conns,aA c) (hl:h.conns.length≤100000000) (hno:aR h=false) :
 ACallL Tryz.prog 53 [.agg (hoR h),.val (.int .i64 link),.clo F []] [.perm] (hwNo 1) [.perm]:=by
 have px:=aQ h.conns
 have cM:=bB h hc hl
 rw [hno] at cM
 dsimp only [hoR] at cM ⊢
 refine ACallL.of_ev af Tryz.func53 rfl (fun a w=>Tryz.call53 a w) (congrArg Array.toList Tryz.results53) Tryz.ntmps53 fun B hB=>?_
 ((conv=>whnf);(repeat' ((first|refine gT ?_|((with_reducible refine ai ?_ ?_);focus (simp;done))|((with_reducible refine aj ?_ ?_);focus (simp;done))|(with_reducible refine ab (fun _=>?_) (fun _=>?_))|((with_reducible refine qcp (cM) ?_);refine pT ?_))<;>(conv=>whnf))))
 (refine qcv hB [] [(0,0)] [] ?_;repeat' (with_reducible first|exact trivial|refine And.intro ?_ ?_))
theorem uK (F:FuncId) (l:List Cn) (count link:Int) (H:HoI ⟨l,count⟩) (hno:bW l link=false) :
 ACallL Tryz.prog 53 [.agg (hoR ⟨l,count⟩),.val (.int .i64 link),.clo F []] [.perm] (hwNo 3) [.perm]:=by
 have px:=aQ l
 have hl:=H.len
 dsimp only at hl
 have hcl : ∀ d∈l,aA d:=fun d hd=>(H.ok d hd).1.I.cnLen
 have cM:=bB ⟨l,count⟩ hcl (by dsimp only;omega)
 rw [(aU _).2 H] at cM
 have cA:=at_l l count link H.up (by omega)
 rw [hno] at cA
 dsimp only [hoR] at cM cA ⊢
 refine ACallL.of_ev af Tryz.func53 rfl (fun a w=>Tryz.call53 a w) (congrArg Array.toList Tryz.results53) Tryz.ntmps53 fun B hB=>?_
 ((conv=>whnf);(repeat' ((first|refine gT ?_|((with_reducible refine ai ?_ ?_);focus (simp;done))|((with_reducible refine aj ?_ ?_);focus (simp;done))|(with_reducible refine ab (fun _=>?_) (fun _=>?_))|((with_reducible refine qcp (cM) ?_);refine pT ?_)|((with_reducible refine qcp (cA) ?_);refine pT ?_))<;>(conv=>whnf))))
 (refine qcv hB [] [(0,0)] [] ?_;repeat' (with_reducible first|exact trivial|refine And.intro ?_ ?_))
theorem tD (F:FuncId) (l:List Cn) (count link e:Int) (H:HoI ⟨l,count⟩) (c:Cn) (ht:bW l link=true) (hci:l[posC l link]?=some c) (he:(e != 0)=true) (cD:ACallL Tryz.prog F [.agg (cnR 0 c)] [.perm] (stNo e) [.perm]) :
 ACallL Tryz.prog 53 [.agg (hoR ⟨l,count⟩),.val (.int .i64 link),.clo F []] [.perm] (hwNo e) [.perm]:=by
 have px:=aQ l
 have p1:=al c.out
 have p2:=ar c.parts
 have hl:=H.len
 dsimp only at hl
 have hcl : ∀ d∈l,aA d:=fun d hd=>(H.ok d hd).1.I.cnLen
 have cM:=bB ⟨l,count⟩ hcl (by dsimp only;omega)
 rw [(aU _).2 H] at cM
 have cA:=at_l l count link H.up (by omega)
 rw [ht] at cA
 obtain ⟨i,hi⟩ : ∃ i,posC l link=i:=⟨_,rfl⟩
 rw [hi] at cA hci
 have hrow:(l.map (cnR 0))[(i:Int).toNat]?=some (cnR 0 c):=by simp [hci]
 dsimp only [hoR,cnR,cnL] at cM cA cD ⊢
 refine ACallL.of_ev af Tryz.func53 rfl (fun a w=>Tryz.call53 a w) (congrArg Array.toList Tryz.results53) Tryz.ntmps53 fun B hB=>?_
 ((conv=>whnf);(repeat' ((first|refine gT ?_|((with_reducible refine ai ?_ ?_);focus (simp;done))|((with_reducible refine aj ?_ ?_);focus (simp;done))|(with_reducible refine ab (fun _=>?_) (fun _=>?_))|((with_reducible refine qcp (cM) ?_);refine pT ?_)|((with_reducible refine qcp (cA) ?_);refine pT ?_)|((with_reducible refine qcp (cD) ?_);refine pT ?_)|(refine ak (idxL rfl rfl rfl rfl rfl rfl (by omega) hrow) ?_))<;>(conv=>whnf))))
 (refine qcv hB [] [(0,0)] [] ?_;repeat' (with_reducible first|exact trivial|refine And.intro ?_ ?_))
theorem xz (F:FuncId) (l:List Cn) (count link:Int) (H:HoI ⟨l,count⟩) (c:Cn) (ht:bW l link=true) (hci:l[posC l link]?=some c) (y:Stp) (hyl:y.out.length≤100000) (hip:y.c.ip=c.ip) (cD:ACallL Tryz.prog F [.agg (cnR 0 c)] [.perm] (stA y) stH) :
 ACallL Tryz.prog 53 [.agg (hoR ⟨l,count⟩),.val (.int .i64 link),.clo F []] [.perm] (hwA ⟨Ho.put ⟨l,count⟩ (posC l link) y.c,toS c.ip y.out,[]⟩) hwH:=by
 have px:=aQ l
 have p1:=al c.out
 have p2:=ar c.parts
 have hl:=H.len
 dsimp only at hl
 have hcl : ∀ d∈l,aA d:=fun d hd=>(H.ok d hd).1.I.cnLen
 have cM:=bB ⟨l,count⟩ hcl (by dsimp only;omega)
 rw [(aU _).2 H] at cM
 have cA:=at_l l count link H.up (by omega)
 rw [ht] at cA
 obtain ⟨i,hi⟩ : ∃ i,posC l link=i:=⟨_,rfl⟩
 rw [hi] at cA hci ⊢
 have hil:=(List.getElem?_eq_some_iff.1 hci).1
 have cO:=fk l count (fun e=>by rw [e] at hil;cases hil) (by omega) hcl
 have hrow:(l.map (cnR 0))[(i:Int).toNat]?=some (cnR 0 c):=by simp [hci]
 have cTo:=to_l y.c.ip y.out hyl
 rw [hip] at cTo
 unfold Ho.put
 dsimp only
 have hipr:y.c.ip=c.ip:=hip
 cases hs0:(y.c.st == 0)
 ·have cSt:=qg l count i y.c hil hs0
  rw [cond_false]
  rw [← hip] at cTo ⊢
  dsimp only [hoR,cnR,cnL,stA] at cM cA cO cD ⊢
  refine ACallL.of_ev af Tryz.func53 rfl (fun a w=>Tryz.call53 a w) (congrArg Array.toList Tryz.results53) Tryz.ntmps53 fun B hB=>?_
  ((conv=>whnf);(repeat' ((first|refine gT ?_|((with_reducible refine ai ?_ ?_);focus (simp;done))|((with_reducible refine aj ?_ ?_);focus (simp;done))|(with_reducible refine ab (fun _=>?_) (fun _=>?_))|((with_reducible refine qcp (cM) ?_);refine pT ?_)|((with_reducible refine qcp (cA) ?_);refine pT ?_)|(refine ak (idxL rfl rfl rfl rfl rfl rfl (by omega) hrow) ?_)|(((with_reducible refine qco (cD) [] [(0,0)] [] [(1,3),(2,4),(3,5),(4,6),(5,7)] [(3,.uniq),(4,.uniq),(5,.uniq),(6,.uniq),(7,.uniq)] (.tup [.agg (cnG 3 4 5 y.c),.glist 6 7 (y.out.map (sgG 7)),.val (.int .i64 0)]) ?_);refine eH ?_))|(((with_reducible refine qco (cO) [] [(0,0)] [] [(1,9),(2,10),(3,11),(4,12)] [(9,cnB' (l.map (cnG 10 11 12))),(10,.uniq),(11,.uniq),(12,.uniq)] (.agg [.sl 9 0 l.length,.val (.int .i64 count)]) ?_);refine eH ?_))|(((with_reducible refine qco (cSt) [(1,1),(2,9)] [(0,0),(3,3),(4,4),(5,5),(6,10),(7,11),(8,12)] [] [] [(1,hoB 9 l.length count),(9,cnB' ((l.map (cnG 10 11 12)).set i (cnG 3 4 5 y.c)))] (.tup []) ?_);refine eH ?_))|(((with_reducible refine qco (cTo) [] [(0,0),(1,6),(2,7)] [] [(3,13)] [(13,.uniq)] (.glist 13 8 ((toS y.c.ip y.out).map (snG 7))) ?_);refine eH ?_)))<;>(conv=>whnf))))
  (refine qcv hB [] [(0,0),(10,2),(3,2),(11,3),(4,3),(12,4),(5,4),(13,5),(7,6)] [(9,1)] ?_;repeat' (with_reducible first|exact trivial|refine And.intro ?_ ?_))
  all_goals first|rfl|exact ir rfl rfl rfl rfl rfl rfl _ _ _ rfl|exact bf rfl _|(exact ao)|trace_state
 ·have cSt:=na l count i y.c hil (by omega) hs0
  rw [cond_true]
  rw [← hip] at cTo ⊢
  dsimp only [hoR,cnR,cnL,stA] at cM cA cO cD ⊢
  refine ACallL.of_ev af Tryz.func53 rfl (fun a w=>Tryz.call53 a w) (congrArg Array.toList Tryz.results53) Tryz.ntmps53 fun B hB=>?_
  ((conv=>whnf);(repeat' ((first|refine gT ?_|((with_reducible refine ai ?_ ?_);focus (simp;done))|((with_reducible refine aj ?_ ?_);focus (simp;done))|(with_reducible refine ab (fun _=>?_) (fun _=>?_))|((with_reducible refine qcp (cM) ?_);refine pT ?_)|((with_reducible refine qcp (cA) ?_);refine pT ?_)|(refine ak (idxL rfl rfl rfl rfl rfl rfl (by omega) hrow) ?_)|(((with_reducible refine qco (cD) [] [(0,0)] [] [(1,3),(2,4),(3,5),(4,6),(5,7)] [(3,.uniq),(4,.uniq),(5,.uniq),(6,.uniq),(7,.uniq)] (.tup [.agg (cnG 3 4 5 y.c),.glist 6 7 (y.out.map (sgG 7)),.val (.int .i64 0)]) ?_);refine eH ?_))|(((with_reducible refine qco (cO) [] [(0,0)] [] [(1,9),(2,10),(3,11),(4,12)] [(9,cnB' (l.map (cnG 10 11 12))),(10,.uniq),(11,.uniq),(12,.uniq)] (.agg [.sl 9 0 l.length,.val (.int .i64 count)]) ?_);refine eH ?_))|(((with_reducible refine qco (cSt) [(1,1),(2,9)] [(0,0),(3,3),(4,4),(5,5),(6,10),(7,11),(8,12)] [] [] [(1,hoB 9 (l.length - 1) count),(9,cnB' ((l.eraseIdx i).map (cnG 10 11 12) ++ [zR]))] (.tup []) ?_);refine eH ?_))|(((with_reducible refine qco (cTo) [] [(0,0),(1,6),(2,7)] [] [(3,13)] [(13,.uniq)] (.glist 13 8 ((toS y.c.ip y.out).map (snG 7))) ?_);refine eH ?_)))<;>(conv=>whnf))))
  (refine qcv hB [] [(0,0),(10,2),(11,3),(12,4),(13,5),(7,6)] [(9,1)] ?_;repeat' (with_reducible first|exact trivial|refine And.intro ?_ ?_))
  all_goals first|rfl|exact hX rfl rfl rfl _ hil rfl|exact bf rfl _|(exact ao)|trace_state
theorem ef {p q:Prop} (k:q) (h:Hold q→p:=by first|(intro hQ;refine And.intro ?_ ?_;(focus rfl);(conv=>whnf);(repeat (refine And.intro ?_ ?_;(focus (first|exact bA|(first|exact bl rfl rfl rfl _ rfl|exact hJ rfl rfl rfl rfl rfl rfl _ _ _|exact RowsRen.app (aK rfl rfl rfl _) gU)));(conv=>whnf)));(fail_if_success (with_reducible first|refine And.intro (bz ?_) ?_|refine And.intro (bD ?_) ?_));exact hQ.out)|fail):p:=h ⟨k⟩
abbrev bxB (xs:List Int):Own := .live ⟨1,37,[[bL 2 xs]]⟩
abbrev hwB (y:Hs):AV := .tup [.agg [.glist 3 16 (y.h.conns.map (cnG 4 5 6)),.val (.int .i64 y.h.count)],.glist 7 8 (y.out.map (snG 8)),.val (.int .i64 0)]
abbrev hwHB (xs:List Int):List Own:=[.perm,bxB xs,.perm,.uniq,.uniq,.uniq,.uniq,.uniq,.uniq]
theorem sS (F:FuncId) (xs:List Int) (h:Ho) (link:Int) (hc : ∀ c∈h.conns,aA c) (hl:h.conns.length≤100000000) (hno:aR h=false) :
 ACallL Tryz.prog 53 [.agg (hoR h),.val (.int .i64 link),.clo F [.ptr 1 0 0]] [.perm,bxB xs,.perm] (hwNo 1) [.perm,bxB xs,.perm]:=by
 have px:=aQ h.conns
 have cM:=bB h hc hl
 rw [hno] at cM
 dsimp only [hoR] at cM ⊢
 refine ACallL.of_ev af Tryz.func53 rfl (fun a w=>Tryz.call53 a w) (congrArg Array.toList Tryz.results53) Tryz.ntmps53 fun B hB=>?_
 ((conv=>whnf);(repeat' ((first|refine gT ?_|((with_reducible refine ai ?_ ?_);focus (simp;done))|((with_reducible refine aj ?_ ?_);focus (simp;done))|(with_reducible refine ab (fun _=>?_) (fun _=>?_))|((with_reducible refine qcp (cM) ?_);refine pT ?_))<;>(conv=>whnf))))
 (refine qcv hB [(1,1)] [(0,0),(2,2)] [] ?_;repeat' (with_reducible first|exact trivial|refine And.intro ?_ ?_))
 all_goals first|rfl|(exact ao)
theorem th (F:FuncId) (xs:List Int) (l:List Cn) (count link:Int) (H:HoI ⟨l,count⟩) (hno:bW l link=false) :
 ACallL Tryz.prog 53 [.agg (hoR ⟨l,count⟩),.val (.int .i64 link),.clo F [.ptr 1 0 0]] [.perm,bxB xs,.perm] (hwNo 3) [.perm,bxB xs,.perm]:=by
 have px:=aQ l
 have hl:=H.len
 dsimp only at hl
 have hcl : ∀ d∈l,aA d:=fun d hd=>(H.ok d hd).1.I.cnLen
 have cM:=bB ⟨l,count⟩ hcl (by dsimp only;omega)
 rw [(aU _).2 H] at cM
 have cA:=at_l l count link H.up (by omega)
 rw [hno] at cA
 dsimp only [hoR] at cM cA ⊢
 refine ACallL.of_ev af Tryz.func53 rfl (fun a w=>Tryz.call53 a w) (congrArg Array.toList Tryz.results53) Tryz.ntmps53 fun B hB=>?_
 ((conv=>whnf);(repeat' ((first|refine gT ?_|((with_reducible refine ai ?_ ?_);focus (simp;done))|((with_reducible refine aj ?_ ?_);focus (simp;done))|(with_reducible refine ab (fun _=>?_) (fun _=>?_))|((with_reducible refine qcp (cM) ?_);refine pT ?_)|((with_reducible refine qcp (cA) ?_);refine pT ?_))<;>(conv=>whnf))))
 (refine qcv hB [(1,1)] [(0,0),(2,2)] [] ?_;repeat' (with_reducible first|exact trivial|refine And.intro ?_ ?_))
 all_goals first|rfl|(exact ao)
theorem sR (F:FuncId) (xs:List Int) (l:List Cn) (count link e:Int) (H:HoI ⟨l,count⟩) (c:Cn) (ht:bW l link=true) (hci:l[posC l link]?=some c) (he:(e != 0)=true) (cD:ACallL Tryz.prog F [.agg (cnR 0 c),.ptr 1 0 0] [.perm,bxB xs,.perm] (stNo e) [.perm,bxB xs,.perm]) :
 ACallL Tryz.prog 53 [.agg (hoR ⟨l,count⟩),.val (.int .i64 link),.clo F [.ptr 1 0 0]] [.perm,bxB xs,.perm] (hwNo e) [.perm,bxB xs,.perm]:=by
 have px:=aQ l
 have p1:=al c.out
 have p2:=ar c.parts
 have hl:=H.len
 dsimp only at hl
 have hcl : ∀ d∈l,aA d:=fun d hd=>(H.ok d hd).1.I.cnLen
 have cM:=bB ⟨l,count⟩ hcl (by dsimp only;omega)
 rw [(aU _).2 H] at cM
 have cA:=at_l l count link H.up (by omega)
 rw [ht] at cA
 obtain ⟨i,hi⟩ : ∃ i,posC l link=i:=⟨_,rfl⟩
 rw [hi] at cA hci
 have hrow:(l.map (cnR 0))[(i:Int).toNat]?=some (cnR 0 c):=by simp [hci]
 dsimp only [hoR,cnR,cnL] at cM cA cD ⊢
 refine ACallL.of_ev af Tryz.func53 rfl (fun a w=>Tryz.call53 a w) (congrArg Array.toList Tryz.results53) Tryz.ntmps53 fun B hB=>?_
 ((conv=>whnf);(repeat' ((first|refine gT ?_|((with_reducible refine ai ?_ ?_);focus (simp;done))|((with_reducible refine aj ?_ ?_);focus (simp;done))|(with_reducible refine ab (fun _=>?_) (fun _=>?_))|((with_reducible refine qcp (cM) ?_);refine pT ?_)|((with_reducible refine qcp (cA) ?_);refine pT ?_)|(((with_reducible refine qco (cD) [(1,1)] [(0,0),(2,2)] [] [] [(1,bxB xs)] (stNo e) ?_);refine ef ?_))|(refine ak (idxL rfl rfl rfl rfl rfl rfl (by omega) hrow) ?_))<;>(conv=>whnf))))
 (refine qcv hB [(1,1)] [(0,0),(2,2)] [] ?_;repeat' (with_reducible first|exact trivial|refine And.intro ?_ ?_))
 all_goals first|rfl|(exact ao)
theorem wO (F:FuncId) (xs:List Int) (l:List Cn) (count link:Int) (H:HoI ⟨l,count⟩) (c:Cn) (ht:bW l link=true) (hci:l[posC l link]?=some c) (y:Stp) (hyl:y.out.length≤100000) (hip:y.c.ip=c.ip) (cD:ACallL Tryz.prog F [.agg (cnR 0 c),.ptr 1 0 0] [.perm,bxB xs,.perm] (.tup [.agg (cnG 3 4 5 y.c),.glist 6 7 (y.out.map (sgG 7)),.val (.int .i64 0)]) [.perm,bxB xs,.perm,.uniq,.uniq,.uniq,.uniq,.uniq]) :
 ACallL Tryz.prog 53 [.agg (hoR ⟨l,count⟩),.val (.int .i64 link),.clo F [.ptr 1 0 0]] [.perm,bxB xs,.perm] (hwB ⟨Ho.put ⟨l,count⟩ (posC l link) y.c,toS c.ip y.out,[]⟩) (hwHB xs):=by
 have px:=aQ l
 have p1:=al c.out
 have p2:=ar c.parts
 have hl:=H.len
 dsimp only at hl
 have hcl : ∀ d∈l,aA d:=fun d hd=>(H.ok d hd).1.I.cnLen
 have cM:=bB ⟨l,count⟩ hcl (by dsimp only;omega)
 rw [(aU _).2 H] at cM
 have cA:=at_l l count link H.up (by omega)
 rw [ht] at cA
 obtain ⟨i,hi⟩ : ∃ i,posC l link=i:=⟨_,rfl⟩
 rw [hi] at cA hci ⊢
 have hil:=(List.getElem?_eq_some_iff.1 hci).1
 have cO:=fk l count (fun e=>by rw [e] at hil;cases hil) (by omega) hcl
 have hrow:(l.map (cnR 0))[(i:Int).toNat]?=some (cnR 0 c):=by simp [hci]
 have cTo:=to_l y.c.ip y.out hyl
 rw [hip] at cTo
 unfold Ho.put
 dsimp only
 have hipr:y.c.ip=c.ip:=hip
 cases hs0:(y.c.st == 0)
 ·have cSt:=qg l count i y.c hil hs0
  rw [cond_false]
  rw [← hip] at cTo ⊢
  dsimp only [hoR,cnR,cnL,stA] at cM cA cO cD ⊢
  refine ACallL.of_ev af Tryz.func53 rfl (fun a w=>Tryz.call53 a w) (congrArg Array.toList Tryz.results53) Tryz.ntmps53 fun B hB=>?_
  ((conv=>whnf);(repeat' ((first|refine gT ?_|((with_reducible refine ai ?_ ?_);focus (simp;done))|((with_reducible refine aj ?_ ?_);focus (simp;done))|(with_reducible refine ab (fun _=>?_) (fun _=>?_))|((with_reducible refine qcp (cM) ?_);refine pT ?_)|((with_reducible refine qcp (cA) ?_);refine pT ?_)|(refine ak (idxL rfl rfl rfl rfl rfl rfl (by omega) hrow) ?_)|(((with_reducible refine qco (cD) [(1,1)] [(0,0),(2,2)] [] [(3,5),(4,6),(5,7),(6,8),(7,9)] [(1,bxB xs),(5,.uniq),(6,.uniq),(7,.uniq),(8,.uniq),(9,.uniq)] (.tup [.agg (cnG 5 6 7 y.c),.glist 8 7 (y.out.map (sgG 9)),.val (.int .i64 0)]) ?_);refine ef ?_))|(((with_reducible refine qco (cO) [] [(0,0)] [] [(1,11),(2,12),(3,13),(4,14)] [(11,cnB' (l.map (cnG 12 13 14))),(12,.uniq),(13,.uniq),(14,.uniq)] (.agg [.sl 11 0 l.length,.val (.int .i64 count)]) ?_);refine ef ?_))|(((with_reducible refine qco (cSt) [(1,3),(2,11)] [(0,0),(3,5),(4,6),(5,7),(6,12),(7,13),(8,14)] [] [] [(3,hoB 11 l.length count),(11,cnB' ((l.map (cnG 12 13 14)).set i (cnG 5 6 7 y.c)))] (.tup []) ?_);refine ef ?_))|(((with_reducible refine qco (cTo) [] [(0,0),(1,8),(2,9)] [] [(3,15)] [(15,.uniq)] (.glist 15 8 ((toS y.c.ip y.out).map (snG 9))) ?_);refine ef ?_)))<;>(conv=>whnf))))
  (refine qcv hB [(1,1)] [(0,0),(2,2),(12,4),(5,4),(13,5),(6,5),(14,6),(7,6),(15,7),(9,8)] [(11,3)] ?_;repeat' (with_reducible first|exact trivial|refine And.intro ?_ ?_))
  all_goals first|rfl|exact ir rfl rfl rfl rfl rfl rfl _ _ _ rfl|exact bf rfl _|(exact ao)|trace_state
 ·have cSt:=na l count i y.c hil (by omega) hs0
  rw [cond_true]
  rw [← hip] at cTo ⊢
  dsimp only [hoR,cnR,cnL,stA] at cM cA cO cD ⊢
  refine ACallL.of_ev af Tryz.func53 rfl (fun a w=>Tryz.call53 a w) (congrArg Array.toList Tryz.results53) Tryz.ntmps53 fun B hB=>?_
  ((conv=>whnf);(repeat' ((first|refine gT ?_|((with_reducible refine ai ?_ ?_);focus (simp;done))|((with_reducible refine aj ?_ ?_);focus (simp;done))|(with_reducible refine ab (fun _=>?_) (fun _=>?_))|((with_reducible refine qcp (cM) ?_);refine pT ?_)|((with_reducible refine qcp (cA) ?_);refine pT ?_)|(refine ak (idxL rfl rfl rfl rfl rfl rfl (by omega) hrow) ?_)|(((with_reducible refine qco (cD) [(1,1)] [(0,0),(2,2)] [] [(3,5),(4,6),(5,7),(6,8),(7,9)] [(1,bxB xs),(5,.uniq),(6,.uniq),(7,.uniq),(8,.uniq),(9,.uniq)] (.tup [.agg (cnG 5 6 7 y.c),.glist 8 7 (y.out.map (sgG 9)),.val (.int .i64 0)]) ?_);refine ef ?_))|(((with_reducible refine qco (cO) [] [(0,0)] [] [(1,11),(2,12),(3,13),(4,14)] [(11,cnB' (l.map (cnG 12 13 14))),(12,.uniq),(13,.uniq),(14,.uniq)] (.agg [.sl 11 0 l.length,.val (.int .i64 count)]) ?_);refine ef ?_))|(((with_reducible refine qco (cSt) [(1,3),(2,11)] [(0,0),(3,5),(4,6),(5,7),(6,12),(7,13),(8,14)] [] [] [(3,hoB 11 (l.length - 1) count),(11,cnB' ((l.eraseIdx i).map (cnG 12 13 14) ++ [zR]))] (.tup []) ?_);refine ef ?_))|(((with_reducible refine qco (cTo) [] [(0,0),(1,8),(2,9)] [] [(3,15)] [(15,.uniq)] (.glist 15 8 ((toS y.c.ip y.out).map (snG 9))) ?_);refine ef ?_)))<;>(conv=>whnf))))
  (refine qcv hB [(1,1)] [(0,0),(2,2),(12,4),(13,5),(14,6),(15,7),(9,8)] [(11,3)] ?_;repeat' (with_reducible first|exact trivial|refine And.intro ?_ ?_))
  all_goals first|rfl|exact hX rfl rfl rfl _ hil rfl|exact bf rfl _|(exact ao)|trace_state
end Go.Proofs.YtceohcbokbalhaaGreat
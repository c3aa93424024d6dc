/- Contracts and plain laws, one behind the other: AhTcpY, AhHoR, AhHoK, AhHoG, AhHoA, AhHoW, AhHoX. Conditions are said at each. -/
import Derived.Test.YtceohcbokbalhaaGreatPkAL
import Derived.Test.YtceohcbokbalhaaGreatPkAH
import Derived.Test.YtceohcbokbalhaaGreatPkAK
namespace Go.Proofs.YtceohcbokbalhaaGreat
open Go.RowKit
set_option linter.unusedVariables false
set_option linter.unusedSimpArgs false
set_option maxRecDepth 100000
set_option maxHeartbeats 4000000
theorem dt_AhTcpY_ROWR {p:Prop} (h:p:=by first|((first|rfl|(refine RowsRen.one ?_;(repeat (refine Cells.cons ?_ ?_;focus (first|exact .val _|exact Ren.ll rfl _|exact Ren.gg rfl _|exact Ren.g2 rfl _|exact Ren.vnil _ _|exact Ren.vgnil _ _|exact Ren.sll rfl rfl _|exact Ren.pll rfl rfl _|fail)));exact Cells.nil)|exact segs_ll rfl _|exact parts_ll rfl _|exact bytes_cells _);done)|fail):p:=h
theorem rTake0_l (c:Cn) (m:Sg) (hI:CnI c) (hm:sgB m=true) (h0:(c.st == 0)=true) :
 ACallL Tryz.prog 66 [.agg (cnR 0 c),.agg (sgR 0 m)] [.perm] (.ptr 1 0 0) (rsH (c.takes m)):=by
 have px:=pl_bytes c.out
 have py:=pl_parts c.parts
 have pz:=pl_bytes m.data
 obtain ⟨_,_,hseq,_,_,_,hd⟩:=sgB_t hm
 have cB:=begin_l c hI.cnLen
 have cL:=refLength_l m (by omega)
 have e:c.takes m=c.start:=by
  unfold Cn.takes Stp.take
  show (bif c.st == 0 then _ else _)=_
  rw [h0,cond_true]
 rw [e]
 unfold Cn.start at cB ⊢
 dsimp only [cnR,cnL,sgR,sgL,rsN,spL] at cB cL ⊢
 refine ACallL.of_ev mixed Tryz.func66 rfl (fun a w=>Tryz.call66 a w) (congrArg Array.toList Tryz.results66) Tryz.ntmps66 fun B hB=>?_
 ((conv=>whnf);(repeat' ((first|refine gT ?_|(with_reducible refine qif_i (fun _=>?_) (fun _=>?_))|((with_reducible refine qcp (cL) ?_);refine pT ?_)|(((with_reducible refine qco (cB) [] [(0,0)] [] [(1,3),(2,4),(3,5),(4,6),(5,7),(6,8),(7,9)] [(3,rsO (rsN 4 5 6 7 8 9 ⟨c,[],[]⟩)),(4,.uniq),(5,.uniq),(6,.uniq),(7,.uniq),(8,.uniq),(9,.uniq)] (.ptr 3 0 0) ?_);refine sT ?_)))<;>(conv=>whnf))))
 all_goals ((refine qcv hB [(3,1)] [(0,0),(4,2),(5,3),(6,4),(7,5),(8,6),(9,7)] [] ?_;repeat' (with_reducible first|exact trivial|refine And.intro ?_ ?_)))
 all_goals (try exact dt_AhTcpY_ROWR)
theorem rTakeA_l (c:Cn) (m:Sg) (hI:CnI c) (hm:sgB m=true):ACallL Tryz.prog 66 [.agg (cnR 0 c),.agg (sgR 0 m)] [.perm] (.ptr 1 0 0) (rsH (c.takes m)):=by
 cases h0:(c.st == 0) with
 | true=>exact rTake0_l c m hI hm h0
 | false=>exact rTake_l c m hI hm h0
theorem s_AhHoR {p q:Prop} (k:q) (h:Hold q→p:=by first|(intro hQ;refine And.intro ?_ ?_;(focus rfl);(conv=>whnf);(repeat (refine And.intro ?_ ?_;(focus (first|exact sideT|(first|exact cns_bor rfl rfl rfl _ rfl|exact hsRow_r rfl rfl rfl (cns_gp rfl rfl rfl _) (sns_rr rfl _) (hds_rr rfl _)|exact hsRow_r rfl rfl rfl (cns_pp rfl rfl rfl _) (sns_rr rfl _) (hds_rr rfl _)|exact hsRow_r rfl rfl rfl (cns_gp rfl rfl rfl _) (sns_rr (r:=9) rfl []) (hds_rr (r:=11) rfl [])|exact hsRow_r rfl rfl rfl (cns_pp rfl rfl rfl _) (sns_rr rfl _) (hds_rr (r:=11) rfl [])|exact hsRow_r rfl rfl rfl (cns_gp rfl rfl rfl _) (sns_rr (r:=9) rfl []) (hds_rr rfl [_]))));(conv=>whnf)));(fail_if_success (with_reducible first|refine And.intro (eqv_i ?_) ?_|refine And.intro (ren_i ?_) ?_));exact hQ.out)|fail):p:=h ⟨k⟩
theorem s_AhHoRx {p q:Prop} (k:q) (h:Hold q→p:=by first|(intro hQ;refine And.intro ?_ (And.intro ?_ (And.intro ?_ (And.intro ?_ ?_)));(focus kernel_rfl);(focus kernel_rfl);(focus kernel_rfl);(focus kernel_rfl);(conv=>whnf);(repeat (refine And.intro ?_ ?_;(focus (first|exact sideT|(first|exact cns_bor rfl rfl rfl _ rfl|exact hsRow_r rfl rfl rfl (cns_gp rfl rfl rfl _) (sns_rr rfl _) (hds_rr rfl _)|exact hsRow_r rfl rfl rfl (cns_pp rfl rfl rfl _) (sns_rr rfl _) (hds_rr rfl _)|exact hsRow_r rfl rfl rfl (cns_gp rfl rfl rfl _) (sns_rr (r:=9) rfl []) (hds_rr (r:=11) rfl [])|exact hsRow_r rfl rfl rfl (cns_pp rfl rfl rfl _) (sns_rr rfl _) (hds_rr (r:=11) rfl [])|exact hsRow_r rfl rfl rfl (cns_gp rfl rfl rfl _) (sns_rr (r:=9) rfl []) (hds_rr rfl [_]))));(conv=>whnf)));(fail_if_success (with_reducible first|refine And.intro (eqv_i ?_) ?_|refine And.intro (ren_i ?_) ?_));exact hQ.out)|fail):p:=h ⟨k⟩
abbrev rhH (y:Hs):List Own:=[.perm,hsO (hsRow 2 3 4 5 6 7 8 9 y),.uniq,.uniq,.uniq,.uniq,.uniq,.uniq,.uniq,.uniq]
theorem hisB_eq {ip:Int} {s:Sg} {c:Cn} (hs:sgB s=true) (hp:c.port=1883):hisB ip s c=(c.ip == ip && fitsB c s):=by
 unfold hisB fitsB
 rw [hs,hp,Bool.true_and]
 have:(c.pp == s.sp)=(s.sp == c.pp):=by rw [Bool.eq_iff_iff,beq_iff_eq,beq_iff_eq];omega
 rw [this]
 cases (s.dp == 1883)<;>cases (c.ip == ip)<;>cases (s.sp == c.pp)<;>rfl
section
variable {L I F:Prs} {h:Hp}
theorem hs0_vg {c c' s' h' : Nat} {count:Int} {C C' : List (List AV)} (h0:I.has c c' = true) (r1:RowsRen (qOf L I F) h C C') :
 RowsRen (qOf L I F) h [[.glist c 16 C,.val (.int .i64 count),.val (.slice none 0 0),.val (.slice none 0 0)]] [[.glist c' 16 C', .val (.int .i64 count),.glist s' 8 [],.glist h' 3 []]] :=
 RowsRen.one (.cons (Ren.glR h0 r1) (.cons (.val _) (.cons (Ren.vgnil _ _) (.cons (Ren.vgnil _ _) .nil))))
theorem hs0_r {c c' s s' hh h' : Nat} {count:Int} {C C' : List (List AV)} (h0:I.has c c' = true) (h1:I.has s s' = true) (h2:I.has hh h' = true) (r1:RowsRen (qOf L I F) h C C') :
 RowsRen (qOf L I F) h [[.glist c 16 C,.val (.int .i64 count),.glist s 8 [],.glist hh 3 []]] [[.glist c' 16 C', .val (.int .i64 count),.glist s' 8 [],.glist h' 3 []]]:=hsRow_r h0 h1 h2 r1 RowsRen.nil RowsRen.nil
end
theorem dt_AhHoR_ROWR {p:Prop} (h:p:=by first|((first|rfl|exact hs0_r rfl rfl rfl (cns_gg rfl rfl rfl _)|exact RowsRen.one (cn_rr rfl _)|(exact rowsT));done)|fail):p:=h
theorem rHostTake_at (l:List Cn) (count ip:Int) (s:Sg) (H:HoI ⟨l,count⟩) (hs:sgB s=true) (i:Nat) (c:Cn) (hi:l.findIdx? (hisB ip s)=some i) (hci:l[i]?=some c) :
 ACallL Tryz.prog 35 [.agg (hoR ⟨l,count⟩),.val (.int .i64 ip),.agg (sgR 0 s)] [.perm] (.ptr 1 0 0) (rhH ⟨Ho.put ⟨l,count⟩ i (c.takes s).c,toS ip (c.takes s).out,heardL c.link (c.takes s).told (endB c.st (c.takes s).c.st)⟩):=by
 have px:=pl_cns l
 have pz:=pl_bytes s.data
 have hl:=H.len
 dsimp only at hl
 have ll:(l.map (cnR 0)).length=l.length:=by simp
 have hcl : ∀ d∈l,CnLen d:=fun d hd=>(H.ok d hd).1.I.cnLen
 have cC:=copyHost_l ⟨l,count⟩ (by dsimp only;omega) hcl
 dsimp only [hoR,sgR,sgL] at cC ⊢
 have hcok:=(H.ok c (List.mem_of_getElem? hci)).1
 have cT:=rTakeA_l c s hcok.I hs
 have hS:=take_S hcok.I hs
 obtain ⟨y,hy⟩ : ∃ y,c.takes s=y:=⟨_,rfl⟩
 rw [hy] at cT hS
 obtain ⟨e,he⟩ : ∃ e,endB c.st y.c.st=e:=⟨_,rfl⟩
 rw [hy,he]
 obtain ⟨z,hz⟩ : ∃ z,(⟨Ho.put ⟨l,count⟩ i y.c,toS ip y.out,heardL c.link y.told e⟩:Hs)=z:=⟨_,rfl⟩
 rw [hz]
 dsimp only [rhH,hsRow]
 refine ACallL.of_ev mixed Tryz.func35 rfl (fun a w=>Tryz.call35 a w) (congrArg Array.toList Tryz.results35) Tryz.ntmps35 fun B hB=>?_
 ((conv=>whnf);(repeat' ((first|refine gT ?_|((with_reducible refine qif_t ?_ ?_);focus (simp;done))|((with_reducible refine qif_f ?_ ?_);focus (simp;done))|(with_reducible refine qif_i (fun _=>?_) (fun _=>?_))|(((with_reducible refine qco (cC) [] [(0,0)] [] [(1,3),(2,4),(3,5),(4,6)] [(3,.uniq),(4,.uniq),(5,.uniq),(6,.uniq)] (.agg [.glist 3 16 (l.map (cnG 4 5 6)),.val (.int .i64 count)]) ?_);refine s_AhHoR ?_)))<;>(conv=>whnf))))
 refine qAW.loopS (by simp only [spine,List.cons_append,List.nil_append,List.append_assoc];rfl) (X:=Nat) (fun k=>slotsOf 219 [(1,.val (.int .i64 ip)),(3,.ptr 1 0 0),(5,.ptr 2 0 0),(6,.val (.pointer none)),(7,.ptr 7 0 0),(8,.val (.int .i64 (synN (l.take k)))),(9,.val (.int .i64 k))])
  (fun k=>[.perm,.live ⟨2,24,[[.list 0 16 (l.map (cnR 0)),.val (.int .i64 count)]]⟩,.live ⟨7,39,[sgR 0 s]⟩,.uniq,.uniq,.uniq,.uniq,hsO [.glist 3 16 (l.map (cnG 4 5 6)),.val (.int .i64 count),.glist 8 8 [],.glist 10 3 []],.uniq,.uniq,.uniq,.uniq]) (fun k=>k≤i) (fun k=>i - k) 0 (Nat.zero_le _) ?_ ?_
 ·(refine qcv hB [(1,1),(2,2),(7,7)] [(0,0),(3,3),(4,4),(5,5),(6,6)] [] ?_;repeat' (with_reducible first|exact trivial|refine And.intro ?_ ?_))
  all_goals first|rfl|exact hs0_vg rfl (cns_gg rfl rfl rfl _)|(exact rowsT)|trace_state
 ·rintro E k hk hE
  have hil:=(List.getElem?_eq_some_iff.1 hci).1
  have hlt:k < l.length:=by omega
  obtain ⟨d,hd⟩ : ∃ p,l[k]?=some p:=⟨_,List.getElem?_eq_getElem hlt⟩
  have hrow:(l.map (cnR 0))[(k:Int).toNat]?=some (cnR 0 d):=by simp [hd]
  have p1:=pl_bytes d.out
  have p2:=pl_parts d.parts
  have w:=IntWalk.i64_in ((k:Int) + 1) (by omega)
  have hdok:=(H.ok d (List.mem_of_getElem? hd)).1
  have cF:=refFits_l d s
  dsimp only [sgR,sgL,cnR,cnL] at cF
  have hsn:synN (l.take (k + 1))=synN (l.take k) + (if d.st=1 then 1 else 0):=by
   unfold synN
   rw [take_snoc hd,List.filter_append,List.length_append]
   by_cases h1:d.st=1<;>simp [h1]
  have hle:synN (l.take k)≤k:=by
   unfold synN
   exact Nat.le_trans (List.length_filter_le _ _) (by simp;omega)
  have w2:=IntWalk.i64_in ((synN (l.take k):Nat) + 1) (by omega)
  (try dsimp only)
  refine qAWs.cut mixed 2 (by simp only [List.take_succ_cons,List.take_zero];rfl) (by simp only [List.drop_succ_cons,List.drop_zero];rfl) (by simp only [chain];rfl) rfl (X:=Unit) (fun _=>slotsOf 219 [(1,.val (.int .i64 ip)),(3,.ptr 1 0 0),(5,.ptr 2 0 0),(6,.val (.pointer none)),(7,.ptr 7 0 0),(8,.val (.int .i64 (synN (l.take k)))),(9,.val (.int .i64 k))]) (fun _=>[.perm,.live ⟨2,24,[[.list 0 16 (l.map (cnR 0)),.val (.int .i64 count)]]⟩,.live ⟨7,39,[sgR 0 s]⟩,.uniq,.uniq,.uniq,.uniq,hsO [.glist 3 16 (l.map (cnG 4 5 6)),.val (.int .i64 count),.glist 8 8 [],.glist 10 3 []],.uniq,.uniq,.uniq,.uniq]) (fun _=>True) ?_ ?_
  ·((conv=>whnf);(repeat' ((first|refine gT ?_|((with_reducible refine qif_t ?_ ?_);focus (simp [hlt];done))|((with_reducible refine qif_f ?_ ?_);focus (simp [hlt];done))|(with_reducible refine qif_i (fun _=>?_) (fun _=>?_)))<;>(conv=>whnf))))
   refine ⟨(),trivial,?_⟩
   (refine qcv hB [(1,1),(2,2),(7,7)] [(0,0),(3,3),(4,4),(5,5),(6,6),(8,8),(9,9),(10,10),(11,11)] [] ?_;repeat' (with_reducible first|exact trivial|refine And.intro ?_ ?_))
   all_goals (try exact dt_AhHoR_ROWR)
  rintro ⟨⟩ -
  (try dsimp only)
  refine qAWs.block (by simp only [spine,List.cons_append,List.nil_append,List.append_assoc];rfl) ?_
  rintro E1 hE1
  refine qAWs.cut mixed 3 (by simp only [List.take_succ_cons,List.take_zero];rfl) (by simp only [List.drop_succ_cons,List.drop_zero];rfl) (by simp only [chain];rfl) rfl (X:=Unit) (fun _=>slotsOf 219 [(1,.val (.int .i64 ip)),(3,.ptr 1 0 0),(5,.ptr 2 0 0),(6,.val (.pointer none)),(7,.ptr 7 0 0),(8,.val (.int .i64 (synN (l.take (k + 1))))),(9,.val (.int .i64 k)),(10,.ptr 12 0 0)]) (fun _=>[.perm,.live ⟨2,24,[[.list 0 16 (l.map (cnR 0)),.val (.int .i64 count)]]⟩,.live ⟨7,39,[sgR 0 s]⟩,.uniq,.uniq,.uniq,.uniq,hsO [.glist 3 16 (l.map (cnG 4 5 6)),.val (.int .i64 count),.glist 8 8 [],.glist 10 3 []],.uniq,.uniq,.uniq,.uniq,.live ⟨16,50,[cnR 0 d]⟩]) (fun _=>True) ?_ ?_
  ·rw [hsn]
   by_cases h1:d.st=1
   ·rw [if_pos h1]
    ((conv=>whnf);(repeat' ((first|refine gT ?_|((with_reducible refine qif_t ?_ ?_);focus (simp [h1];done))|((with_reducible refine qif_f ?_ ?_);focus (simp [h1];done))|(with_reducible refine qif_i (fun _=>?_) (fun _=>?_))|(refine qCase_i (idxL rfl rfl rfl rfl rfl rfl (by omega) hrow) ?_))<;>(conv=>whnf))))
    refine ⟨(),trivial,?_⟩
    (refine qcv hB [(1,1),(2,2),(7,7),(12,12)] [(0,0),(3,3),(4,4),(5,5),(6,6),(8,8),(9,9),(10,10),(11,11)] [] ?_;repeat' (with_reducible first|exact trivial|refine And.intro ?_ ?_))
    all_goals (try (first|(simp [w2];done)))
    all_goals (try exact dt_AhHoR_ROWR)
   ·rw [if_neg h1]
    ((conv=>whnf);(repeat' ((first|refine gT ?_|((with_reducible refine qif_t ?_ ?_);focus (simp [h1];done))|((with_reducible refine qif_f ?_ ?_);focus (simp [h1];done))|(with_reducible refine qif_i (fun _=>?_) (fun _=>?_))|(refine qCase_i (idxL rfl rfl rfl rfl rfl rfl (by omega) hrow) ?_))<;>(conv=>whnf))))
    refine ⟨(),trivial,?_⟩
    (refine qcv hB [(1,1),(2,2),(7,7),(12,12)] [(0,0),(3,3),(4,4),(5,5),(6,6),(8,8),(9,9),(10,10),(11,11)] [] ?_;repeat' (with_reducible first|exact trivial|refine And.intro ?_ ?_))
    all_goals (try exact dt_AhHoR_ROWR)
  rintro ⟨⟩ -
  (try dsimp only)
  have hhis:=hisB_eq (ip:=ip) (c:=d) hs hdok.port
  obtain ⟨u1,hu1⟩ : ∃ b,(d.ip != ip)=b:=⟨_,rfl⟩
  obtain ⟨u2,hu2⟩ : ∃ b,fitsB d s=b:=⟨_,rfl⟩
  rw [hu2] at hhis cF
  have hu3:(d.ip == ip) = !u1:=by rw [← hu1,bne,Bool.not_not]
  rw [hu3] at hhis
  by_cases hki:k=i
  ·subst hki
   rw [hci] at hd
   cases hd
   have hp:hisB ip s c=true:=by
    obtain ⟨_,h2,_⟩:=List.findIdx?_eq_some_iff_getElem.1 hi
    rwa [(List.getElem?_eq_some_iff.1 hci).2] at h2
   rw [hp] at hhis
   have hu1' : u1=false:=by cases u1<;>cases u2<;>first|rfl|cases hhis
   have hu2' : u2=true:=by cases u1<;>cases u2<;>first|rfl|cases hhis
   subst hu1' hu2'
   dsimp only [cnR,cnL,sgR,sgL] at cT
   refine qAWs.cut mixed 4 (by simp only [List.take_succ_cons,List.take_zero];rfl) (by simp only [List.drop_succ_cons,List.drop_zero];rfl) (by simp only [chain];rfl) rfl (X:=Unit) (fun _=>slotsOf 219 [(1,.val (.int .i64 ip)),(3,.ptr 1 0 0),(5,.ptr 2 0 0),(6,.val (.pointer none)),(7,.ptr 7 0 0),(9,.val (.int .i64 k)),(10,.ptr 12 0 0),(11,.ptr 13 0 0),(12,.val (.int .i64 y.c.st))]) (fun _=>[.perm,.live ⟨2,24,[[.list 0 16 (l.map (cnR 0)),.val (.int .i64 count)]]⟩,.live ⟨7,39,[sgR 0 s]⟩,.uniq,.uniq,.uniq,.uniq,hsO [.glist 3 16 (l.map (cnG 4 5 6)),.val (.int .i64 count),.glist 8 8 [],.glist 10 3 []],.uniq,.uniq,.uniq,.uniq,.live ⟨16,50,[cnR 0 c]⟩,rsO (rsN 14 15 16 17 18 19 y),.uniq,.uniq,.uniq,.uniq,.uniq,.uniq]) (fun _=>True) ?_ ?_
   ·((conv=>whnf);(repeat' ((first|refine gT ?_|((with_reducible refine qif_t ?_ ?_);focus (simp;done))|((with_reducible refine qif_f ?_ ?_);focus (simp;done))|(with_reducible refine qif_i (fun _=>?_) (fun _=>?_))|((with_reducible refine qcp (cF) ?_);refine pT ?_)|(((with_reducible refine qco (cT) [] [(0,0)] [] [(1,13),(2,14),(3,15),(4,16),(5,17),(6,18),(7,19)] [(13,rsO (rsN 14 15 16 17 18 19 y)),(14,.uniq),(15,.uniq),(16,.uniq),(17,.uniq),(18,.uniq),(19,.uniq)] (.ptr 13 0 0) ?_);refine s_AhHoR ?_)))<;>(conv=>whnf))))
    refine ⟨(),trivial,?_⟩
    (refine qcv hB [(1,1),(2,2),(7,7),(12,12),(13,13)] [(0,0),(3,3),(4,4),(5,5),(6,6),(8,8),(9,9),(10,10),(11,11),(14,14),(15,15),(16,16),(17,17),(18,18),(19,19)] [] ?_;repeat' (with_reducible first|exact trivial|refine And.intro ?_ ?_))
    all_goals (try exact dt_AhHoR_ROWR)
   rintro ⟨⟩ -
   (try dsimp only)
   refine qAWs.cut mixed 1 (by simp only [List.take_succ_cons,List.take_zero];rfl) (by simp only [List.drop_succ_cons,List.drop_zero];rfl) (by simp only [chain];rfl) rfl (X:=Unit) (fun _=>slotsOf 219 [(1,.val (.int .i64 ip)),(3,.ptr 1 0 0),(5,.ptr 2 0 0),(6,.val (.pointer none)),(7,.ptr 7 0 0),(9,.val (.int .i64 k)),(10,.ptr 12 0 0),(11,.ptr 13 0 0),(12,.val (.int .i64 y.c.st)),(13,.val (.bool (y.c.st == 5 || (y.c.st == 6 || y.c.st == 8))))]) (fun _=>[.perm,.live ⟨2,24,[[.list 0 16 (l.map (cnR 0)),.val (.int .i64 count)]]⟩,.live ⟨7,39,[sgR 0 s]⟩,.uniq,.uniq,.uniq,.uniq,hsO [.glist 3 16 (l.map (cnG 4 5 6)),.val (.int .i64 count),.glist 8 8 [],.glist 10 3 []],.uniq,.uniq,.uniq,.uniq,.live ⟨16,50,[cnR 0 c]⟩,rsO (rsN 14 15 16 17 18 19 y),.uniq,.uniq,.uniq,.uniq,.uniq,.uniq]) (fun _=>True) ?_ ?_
   ·have hw:(y.c.st == 5)=true∨(y.c.st == 5)=false∧((y.c.st == 6)=true∨(y.c.st == 6)=false∧((y.c.st == 8)=true∨(y.c.st == 8)=false)):=by
     cases (y.c.st == 5)<;>cases (y.c.st == 6)<;>cases (y.c.st == 8)<;>simp
    rcases hw with v1|⟨v1,v2|⟨v2,v3|v3⟩⟩
    all_goals
     rw [v1]
     (try rw [v2])
     (try rw [v3])
     simp only [Bool.true_or,Bool.false_or]
     ((conv=>whnf);(repeat' ((first|refine gT ?_|((with_reducible refine qif_t ?_ ?_);focus (simp;done))|((with_reducible refine qif_f ?_ ?_);focus (simp;done))|(with_reducible refine qif_i (fun _=>?_) (fun _=>?_)))<;>(conv=>whnf))))
     refine ⟨(),trivial,?_⟩
     (refine qcv hB [(1,1),(2,2),(7,7),(12,12),(13,13)] [(0,0),(3,3),(4,4),(5,5),(6,6),(8,8),(9,9),(10,10),(11,11),(14,14),(15,15),(16,16),(17,17),(18,18),(19,19)] [] ?_;repeat' (with_reducible first|exact trivial|refine And.intro ?_ ?_))
     all_goals (try (first|rfl|(rw [v1];done)|(rw [v2];done)|(rw [v3];done)))
     all_goals (try exact dt_AhHoR_ROWR)
   rintro ⟨⟩ -
   (try dsimp only)
   obtain ⟨fin,hfin⟩ : ∃ b,(y.c.st == 5 || (y.c.st == 6 || y.c.st == 8))=b:=⟨_,rfl⟩
   rw [hfin]
   refine qAWs.cut mixed 1 (by simp only [List.take_succ_cons,List.take_zero];rfl) (by simp only [List.drop_succ_cons,List.drop_zero];rfl) (by simp only [chain];rfl) rfl (X:=Unit) (fun _=>slotsOf 219 [(1,.val (.int .i64 ip)),(3,.ptr 1 0 0),(5,.ptr 2 0 0),(6,.val (.pointer none)),(7,.ptr 7 0 0),(9,.val (.int .i64 k)),(10,.ptr 12 0 0),(11,.ptr 13 0 0),(12,.val (.int .i64 y.c.st)),(13,.val (.bool fin)),(14,.val (.bool (c.st == 1 || (c.st == 2 || (c.st == 3 || c.st == 4)))))]) (fun _=>[.perm,.live ⟨2,24,[[.list 0 16 (l.map (cnR 0)),.val (.int .i64 count)]]⟩,.live ⟨7,39,[sgR 0 s]⟩,.uniq,.uniq,.uniq,.uniq,hsO [.glist 3 16 (l.map (cnG 4 5 6)),.val (.int .i64 count),.glist 8 8 [],.glist 10 3 []],.uniq,.uniq,.uniq,.uniq,.live ⟨16,50,[cnR 0 c]⟩,rsO (rsN 14 15 16 17 18 19 y),.uniq,.uniq,.uniq,.uniq,.uniq,.uniq]) (fun _=>True) ?_ ?_
   ·have hw:(c.st == 1)=true∨(c.st == 1)=false∧((c.st == 2)=true∨(c.st == 2)=false∧((c.st == 3)=true∨(c.st == 3)=false∧((c.st == 4)=true∨(c.st == 4)=false))):=by
     cases (c.st == 1)<;>cases (c.st == 2)<;>cases (c.st == 3)<;>cases (c.st == 4)<;>simp
    rcases hw with v1|⟨v1,v2|⟨v2,v3|⟨v3,v4|v4⟩⟩⟩
    all_goals
     rw [v1]
     (try rw [v2])
     (try rw [v3])
     (try rw [v4])
     simp only [Bool.true_or,Bool.false_or]
     ((conv=>whnf);(repeat' ((first|refine gT ?_|((with_reducible refine qif_t ?_ ?_);focus (simp;done))|((with_reducible refine qif_f ?_ ?_);focus (simp;done))|(with_reducible refine qif_i (fun _=>?_) (fun _=>?_)))<;>(conv=>whnf))))
     refine ⟨(),trivial,?_⟩
     (refine qcv hB [(1,1),(2,2),(7,7),(12,12),(13,13)] [(0,0),(3,3),(4,4),(5,5),(6,6),(8,8),(9,9),(10,10),(11,11),(14,14),(15,15),(16,16),(17,17),(18,18),(19,19)] [] ?_;repeat' (with_reducible first|exact trivial|refine And.intro ?_ ?_))
     all_goals (try (first|rfl|(rw [v1];done)|(rw [v2];done)|(rw [v3];done)|(rw [v4];done)))
     all_goals (try exact dt_AhHoR_ROWR)
   rintro ⟨⟩ -
   (try dsimp only)
   obtain ⟨was,hwas⟩ : ∃ b,(c.st == 1 || (c.st == 2 || (c.st == 3 || c.st == 4)))=b:=⟨_,rfl⟩
   rw [hwas]
   have hee:e=(y.c.st == 0 || (fin && was)):=by rw [← he, ← hfin, ← hwas];rfl
   refine qAWs.cut mixed 1 (by simp only [List.take_succ_cons,List.take_zero];rfl) (by simp only [List.drop_succ_cons,List.drop_zero];rfl) (by simp only [chain];rfl) rfl (X:=Unit) (fun _=>slotsOf 219 [(1,.val (.int .i64 ip)),(3,.ptr 1 0 0),(5,.ptr 2 0 0),(6,.val (.pointer none)),(7,.ptr 7 0 0),(9,.val (.int .i64 k)),(11,.ptr 13 0 0),(15,.ptr 20 0 0)]) (fun _=>[.perm,.live ⟨2,24,[[.list 0 16 (l.map (cnR 0)),.val (.int .i64 count)]]⟩,.live ⟨7,39,[sgR 0 s]⟩,.uniq,.uniq,.uniq,.uniq,hsO [.glist 3 16 (l.map (cnG 4 5 6)),.val (.int .i64 count),.glist 8 8 [],.glist 10 3 []],.uniq,.uniq,.uniq,.uniq,.live ⟨16,50,[cnR 0 c]⟩,rsO (rsN 14 15 16 17 18 19 y),.uniq,.uniq,.uniq,.uniq,.uniq,.uniq,.live ⟨3,111,[[.val (.int .i64 c.link),bL 17 y.told,.val (.bool e)]]⟩]) (fun _=>True) ?_ ?_
   ·clear hfin hwas he
    subst hee
    rcases (by cases (y.c.st == 0)<;>simp:(y.c.st == 0)=true∨(y.c.st == 0)=false) with v1|v1
    all_goals
     rw [v1]
     cases fin<;>cases was
    all_goals
     simp only [Bool.true_or,Bool.false_or,Bool.and_true,Bool.and_false,Bool.and_self]
     ((conv=>whnf);(repeat' ((first|refine gT ?_|((with_reducible refine qif_t ?_ ?_);focus (simp;done))|((with_reducible refine qif_f ?_ ?_);focus (simp;done))|(with_reducible refine qif_i (fun _=>?_) (fun _=>?_)))<;>(conv=>whnf))))
     refine ⟨(),trivial,?_⟩
     (refine qcv hB [(1,1),(2,2),(7,7),(12,12),(13,13),(20,20)] [(0,0),(3,3),(4,4),(5,5),(6,6),(8,8),(9,9),(10,10),(11,11),(14,14),(15,15),(16,16),(17,17),(18,18),(19,19)] [] ?_;repeat' (with_reducible first|exact trivial|refine And.intro ?_ ?_))
     all_goals (try (first|rfl|exact RowsRen.one (.cons (.val _) (.cons (Ren.ll rfl _) (.cons (.val _) .nil)))|(rw [v1];exact RowsRen.one (.cons (.val _) (.cons (Ren.ll rfl _) (.cons (.val _) .nil))))))
     all_goals (try exact dt_AhHoR_ROWR)
   rintro ⟨⟩ -
   (try dsimp only)
   have hh:(decide (0 < ((y.told.map bR).length:Int))=true∨decide (0 < ((y.told.map bR).length:Int))=false∧e=true)∧heardL c.link y.told e=[⟨c.link,y.told,e⟩]∨(decide (0 < ((y.told.map bR).length:Int))=false∧e=false)∧heardL c.link y.told e=[]:=by
    unfold heardL
    cases e<;>cases y.told<;>simp
   refine qAWs.fin mixed (by simp only [chain];rfl) ?_
   have hyl:=hS.cnt
   have hlk:=hS.e2
   have hcip:c.ip=ip:=by simpa using hu1
   have hpc : ∀ D:List Hd,putX ⟨⟨l,count⟩,[],D⟩ k y=⟨Ho.put ⟨l,count⟩ k y.c,toS ip y.out,D⟩:=fun D=>by unfold putX;rw [hlk,hcip];rfl
   rcases hh with ⟨hh,e2⟩|⟨⟨h1,h2⟩,e2⟩
   ·have cP:=hput_l ⟨⟨l,count⟩,[],[⟨c.link,y.told,e⟩]⟩ k y hil (by dsimp only;omega) hcl (by simp;omega)
    rw [e2] at hz
    rw [hpc,hz] at cP
    dsimp only [putL0,putL1,hsRow,rsN] at cP
    subst hE1
    subst hE
    rcases hh with h1|⟨h1,h2⟩
    all_goals
     ((conv=>whnf);(repeat' ((first|refine gT ?_|((with_reducible refine qif_t ?_ ?_);focus (simp;done))|((with_reducible refine qif_f ?_ ?_);focus (simp;done))|(with_reducible refine qif_i (fun _=>?_) (fun _=>?_))|(refine qCase_i (apG (nb:=40) rfl rfl rfl rfl rfl rfl rfl rfl rfl rfl ⟨Nat.zero_lt_succ _,Nat.zero_lt_succ _,rfl⟩ rfl (by decide)) ?_)|(((with_reducible refine qcx (cP) [(1,7),(10,13)] [(0,0),(2,3),(3,4),(4,5),(5,6),(6,8),(7,9),(8,22),(9,17),(11,14),(12,15),(13,16),(14,17),(15,18),(16,19)] [] [(17,23),(18,24),(19,25),(20,26),(21,27),(22,28)] [(7,hsO (hsRow 23 24 25 26 27 28 22 17 z)),(3,.dead),(4,.dead),(5,.dead),(6,.dead),(8,.dead),(9,.dead),(13,.dead),(14,.dead),(15,.dead),(16,.dead),(19,.dead),(23,.uniq),(24,.uniq),(25,.uniq),(26,.uniq),(27,.uniq),(28,.uniq)] (.tup []) [(1,7)] [(17,23),(18,24),(19,25),(20,26),(21,27),(22,28),(0,0),(8,22),(9,17),(14,17),(15,18)] [(2,3),(3,4),(4,5),(5,6),(6,8),(7,9),(11,14),(12,15),(13,16),(16,19)] ?_);refine s_AhHoRx ?_)))<;>(conv=>whnf))))
     (refine qcv hB [(7,1)] [(0,0),(23,2),(24,3),(25,4),(26,5),(27,6),(28,7),(22,8),(17,9)] [] ?_;repeat' (with_reducible first|exact trivial|refine And.intro ?_ ?_))
     all_goals first|rfl  | exact hsRow_r rfl rfl rfl (cns_pp rfl rfl rfl _) (sns_rr rfl _) (hds_rr rfl _)|trace_state
   ·have cP:=hput_l ⟨⟨l,count⟩,[],[]⟩ k y hil (by dsimp only;omega) hcl (by simp;omega)
    rw [e2] at hz
    rw [hpc,hz] at cP
    dsimp only [putL0,putL1,hsRow,rsN] at cP
    subst hE1
    subst hE
    ((conv=>whnf);(repeat' ((first|refine gT ?_|((with_reducible refine qif_t ?_ ?_);focus (simp;done))|((with_reducible refine qif_f ?_ ?_);focus (simp;done))|(with_reducible refine qif_i (fun _=>?_) (fun _=>?_))|(((with_reducible refine qcx (cP) [(1,7),(10,13)] [(0,0),(2,3),(3,4),(4,5),(5,6),(6,8),(7,9),(8,10),(9,11),(11,14),(12,15),(13,16),(14,17),(15,18),(16,19)] [] [(17,21),(18,22),(19,23),(20,24),(21,25),(22,26)] [(7,hsO (hsRow 21 22 23 24 25 26 10 11 z)),(3,.dead),(4,.dead),(5,.dead),(6,.dead),(8,.dead),(9,.dead),(13,.dead),(14,.dead),(15,.dead),(16,.dead),(19,.dead),(21,.uniq),(22,.uniq),(23,.uniq),(24,.uniq),(25,.uniq),(26,.uniq)] (.tup []) [(1,7)] [(17,21),(18,22),(19,23),(20,24),(21,25),(22,26),(0,0),(8,10),(9,11),(14,17),(15,18)] [(2,3),(3,4),(4,5),(5,6),(6,8),(7,9),(11,14),(12,15),(13,16),(16,19)] ?_);refine s_AhHoRx ?_)))<;>(conv=>whnf))))
    (refine qcv hB [(7,1)] [(0,0),(21,2),(22,3),(23,4),(24,5),(25,6),(26,7),(10,8),(11,9)] [] ?_;repeat' (with_reducible first|exact trivial|refine And.intro ?_ ?_))
    all_goals first|rfl  | exact hsRow_r rfl rfl rfl (cns_pp rfl rfl rfl _) (sns_rr rfl _) (hds_rr rfl _)|trace_state
  ·have hno:hisB ip s d=false:=by
    obtain ⟨_,_,h3⟩:=List.findIdx?_eq_some_iff_getElem.1 hi
    have:=h3 k (by omega)
    rw [(List.getElem?_eq_some_iff.1 hd).2] at this
    simpa using this
   rw [hno] at hhis
   have hu:u1=true∨u1=false∧u2=false:=by cases u1<;>cases u2<;>first|(exact .inl rfl)|(exact .inr ⟨rfl,rfl⟩)|cases hhis
   refine qAWs.fin mixed (by simp only [chain];rfl) ?_
   subst hE1
   subst hE
   rcases hu with rfl|⟨rfl,rfl⟩
   all_goals
    ((conv=>whnf);(repeat' ((first|refine gT ?_|((with_reducible refine qif_t ?_ ?_);focus (simp;done))|((with_reducible refine qif_f ?_ ?_);focus (simp;done))|(with_reducible refine qif_i (fun _=>?_) (fun _=>?_))|((with_reducible refine qcp (cF) ?_);refine pT ?_)|(refine qRest.go mixed (by simp only [chain];rfl) ?_))<;>(conv=>whnf))))
    refine ⟨k + 1,by omega,by omega,?_⟩
    (refine qcv hB [(1,1),(2,2),(7,7)] [(0,0),(3,3),(4,4),(5,5),(6,6),(8,8),(9,9),(10,10),(11,11)] [] ?_;repeat' (with_reducible first|exact trivial|refine And.intro ?_ ?_))
    all_goals (try (first|(simp [w];done)))
    all_goals (try exact dt_AhHoR_ROWR)
theorem s_AhHoG {p q:Prop} (k:q) (h:Hold q→p:=by first|(intro hQ;refine And.intro ?_ ?_;(focus rfl);(conv=>whnf);(repeat (refine And.intro ?_ ?_;(focus (first|exact sideT|(first|exact cns_bor rfl rfl rfl _ rfl|exact hsRow_r rfl rfl rfl (cns_gp rfl rfl rfl _) (sns_rr rfl _) (hds_rr rfl _)|exact hsRow_r rfl rfl rfl (cns_pp rfl rfl rfl _) (sns_rr rfl _) (hds_rr rfl _))));(conv=>whnf)));(fail_if_success (with_reducible first|refine And.intro (eqv_i ?_) ?_|refine And.intro (ren_i ?_) ?_));exact hQ.out)|fail):p:=h ⟨k⟩
theorem s_AhHoGx {p q:Prop} (k:q) (h:Hold q→p:=by first|(intro hQ;refine And.intro ?_ (And.intro ?_ (And.intro ?_ (And.intro ?_ ?_)));(focus kernel_rfl);(focus kernel_rfl);(focus kernel_rfl);(focus kernel_rfl);(conv=>whnf);(repeat (refine And.intro ?_ ?_;(focus (first|exact sideT|(first|exact cns_bor rfl rfl rfl _ rfl|exact hsRow_r rfl rfl rfl (cns_gp rfl rfl rfl _) (sns_rr rfl _) (hds_rr rfl _)|exact hsRow_r rfl rfl rfl (cns_pp rfl rfl rfl _) (sns_rr rfl _) (hds_rr rfl _))));(conv=>whnf)));(fail_if_success (with_reducible first|refine And.intro (eqv_i ?_) ?_|refine And.intro (ren_i ?_) ?_));exact hQ.out)|fail):p:=h ⟨k⟩
def heardT (c:Cn):List Hd:=bif c.ticks.c.st == 0 then [⟨c.link,[],true⟩] else []
theorem tickGo_snoc (c:Cn) : ∀ a:List Cn,tickGo (a ++ [c])=((tickGo a).1 ++ (bif c.ticks.c.st == 0 then [] else [c.ticks.c]),(tickGo a).2.1 ++ toS c.ip c.ticks.out,(tickGo a).2.2 ++ heardT c)
 | []=>by
   unfold heardT
   cases h:(c.ticks.c.st == 0)<;>simp [tickGo,h]
 | d::a=>by
   rw [List.cons_append,tickGo,tickGo_snoc c a,tickGo]
   cases h:(d.ticks.c.st == 0)<;>simp
def tickX (l:List Cn) (count:Int) (k:Nat):Hs:=⟨⟨(tickGo (l.take k)).1 ++ l.drop k,count⟩,(tickGo (l.take k)).2.1,(tickGo (l.take k)).2.2⟩
theorem tickX_0 (l:List Cn) (count:Int):tickX l count 0=⟨⟨l,count⟩,[],[]⟩:=rfl
theorem tickX_end (l:List Cn) (count:Int):tickX l count l.length=Ho.tick ⟨l,count⟩:=by
 unfold tickX Ho.tick
 simp
theorem tickX_step {l:List Cn} {count:Int} {k:Nat} {c:Cn} (hc:l[k]?=some c) (he:c.ticks.c.ip=c.ip) :
 putX ⟨⟨(tickGo (l.take k)).1 ++ l.drop k,count⟩,(tickGo (l.take k)).2.1,(tickGo (l.take k)).2.2 ++ heardT c⟩ (tickGo (l.take k)).1.length c.ticks=tickX l count (k + 1):=by
 unfold putX tickX
 rw [take_snoc hc,tickGo_snoc,he]
 have hlt:(tickGo (l.take k)).1.length < ((tickGo (l.take k)).1 ++ l.drop k).length:=by
  have:=(List.getElem?_eq_some_iff.1 hc).1
  simp;omega
 have h1:(Ho.put ⟨(tickGo (l.take k)).1 ++ l.drop k,count⟩ (tickGo (l.take k)).1.length c.ticks.c)=⟨((tickGo (l.take k)).1 ++ (bif c.ticks.c.st == 0 then [] else [c.ticks.c])) ++ l.drop (k + 1),count⟩:=by
  have h2:=put_eq ⟨(tickGo (l.take k)).1 ++ l.drop k,count⟩ (tickGo (l.take k)).1.length c.ticks.c hlt
  have h3:(Ho.put ⟨(tickGo (l.take k)).1 ++ l.drop k,count⟩ (tickGo (l.take k)).1.length c.ticks.c).count=count:=rfl
  cases hp:(Ho.put ⟨(tickGo (l.take k)).1 ++ l.drop k,count⟩ (tickGo (l.take k)).1.length c.ticks.c) with
  | mk a b =>
    rw [hp] at h2 h3
    dsimp only at h2 h3
    subst h3
    rw [h2,List.take_left,drop_cons hc,show (tickGo (l.take k)).1 ++ c::l.drop (k + 1)=((tickGo (l.take k)).1 ++ [c]) ++ l.drop (k + 1) by simp,List.drop_append_of_le_length (by simp),List.append_assoc]
    simp
 rw [h1]
theorem tickGo_hd : ∀ l:List Cn,(tickGo l).2.2.length≤l.length
 | []=>by simp [tickGo]
 | c::l=>by
   have:=tickGo_hd l
   unfold tickGo
   dsimp only
   cases (c.ticks.c.st == 0)<;>simp<;>omega
theorem tickGo_out : ∀ l:List Cn,(∀ c∈l,CnI c)→(tickGo l).2.1.length≤8200 * l.length
 | [],_=>by simp [tickGo]
 | c::l,h=>by
   have h1:=tickGo_out l fun d hd=>h d (by simp [hd])
   have h2:=(tick_I (h c (by simp))).2.cnt
   unfold tickGo toS
   dsimp only
   simp only [List.length_append,List.length_map,List.length_cons]
   omega
theorem tickX_find {l:List Cn} {count:Int} (H:HoI ⟨l,count⟩) {k:Nat} {c:Cn} (hc:l[k]?=some c):Ho.at_ ⟨(tickGo (l.take k)).1 ++ l.drop k,count⟩ c.link=some (tickGo (l.take k)).1.length:=by
 unfold Ho.at_
 refine findJ_at (c:=c) (fun j d hj hd=>?_) ?_ (by simp)
 ·rw [List.getElem?_append_left hj] at hd
  obtain ⟨x,hx,hdx,_⟩:=tickGo_mem _ d (List.mem_of_getElem? hd)
  have hxl:x∈l:=List.mem_of_mem_take hx
  have hS:=(tick_I (H.ok x hxl).1.I).2
  have h1:d.link=x.link:=by rw [hdx];exact hS.e1
  have h2:x.link < c.link:=by
   have hup:=H.up
   dsimp only at hup
   rw [← List.take_append_drop k l,List.pairwise_append] at hup
   exact hup.2.2 x hx c (by rw [drop_cons hc];simp)
  rw [h1]
  simp;omega
 ·rw [List.getElem?_append_right (Nat.le_refl _),Nat.sub_self,List.getElem?_drop,Nat.add_zero]
  exact hc
theorem hds_nil {L I F:Prs} {h:Hp} {t t' : Nat} {link:Int} (h0:I.has t t' = true) (l:List Hd):RowsRen (qOf L I F) h (l.map (hdR t) ++ [[.val (.int .i64 link),.val (.slice none 0 0),.val (.bool true)]]) ((l ++ [(⟨link,[],true⟩:Hd)]).map (hdR t')) :=
 RowsRen.castR (b:=l.map (hdR t') ++ [hdR t' (⟨link,[],true⟩:Hd)]) (by simp) (RowsRen.app (hds_rr h0 l) (RowsRen.one (.cons (.val _) (.cons (Ren.vnil _ _) (.cons (.val _) .nil)))))
theorem hsX_vg {L I F:Prs} {h:Hp} {c c' s' h' : Nat} {count:Int} {C C' : List (List AV)} (h0:I.has c c' = true) (r1:RowsRen (qOf L I F) h C C') :
 RowsRen (qOf L I F) h [[.glist c 16 C,.val (.int .i64 count),.val (.slice none 0 0),.val (.slice none 0 0)]] [[.glist c' 16 C', .val (.int .i64 count),.glist s' 8 [],.glist h' 3 []]] :=
 RowsRen.one (.cons (Ren.glR h0 r1) (.cons (.val _) (.cons (Ren.vgnil _ _) (.cons (Ren.vgnil _ _) .nil))))
theorem dt_AhHoG_ROWT {p:Prop} (h:p:=by first|((first|rfl|exact hsX_vg rfl (cns_gp rfl rfl rfl _)|exact hsRow_r rfl rfl rfl (cns_pp rfl rfl rfl _) (sns_rr rfl _) (hds_rr rfl _)|exact hsRow_r rfl rfl rfl (cns_pp rfl rfl rfl _) (sns_rr rfl _) (hds_nil rfl _)|(exact rowsT));done)|fail):p:=h
theorem rHostTick_l (l:List Cn) (count:Int) (H:HoI ⟨l,count⟩):ACallL Tryz.prog 30 [.agg (hoR ⟨l,count⟩)] [.perm] (.ptr 1 0 0) (rhH (Ho.tick ⟨l,count⟩)):=by
 have px:=pl_cns l
 have hl:=H.len
 dsimp only at hl
 have ll:(l.map (cnR 0)).length=l.length:=by simp
 have hcl : ∀ d∈l,CnLen d:=fun d hd=>(H.ok d hd).1.I.cnLen
 have cC:=copyHost_l ⟨l,count⟩ (by dsimp only;omega) hcl
 rw [← tickX_end]
 dsimp only [hoR] at cC ⊢
 dsimp only [rhH]
 refine ACallL.of_ev mixed Tryz.func30 rfl (fun a w=>Tryz.call30 a w) (congrArg Array.toList Tryz.results30) Tryz.ntmps30 fun B hB=>?_
 ((conv=>whnf);(repeat' ((first|refine gT ?_|((with_reducible refine qif_t ?_ ?_);focus (simp;done))|((with_reducible refine qif_f ?_ ?_);focus (simp;done))|(with_reducible refine qif_i (fun _=>?_) (fun _=>?_))|(((with_reducible refine qco (cC) [] [(0,0)] [] [(1,2),(2,3),(3,4),(4,5)] [(2,.uniq),(3,.uniq),(4,.uniq),(5,.uniq)] (.agg [.glist 2 16 (l.map (cnG 3 4 5)),.val (.int .i64 count)]) ?_);refine s_AhHoG ?_)))<;>(conv=>whnf))))
 refine qAW.loopS (by simp only [spine,List.cons_append,List.nil_append,List.append_assoc];rfl) (X:=Nat) (fun k=>slotsOf 59 [(1,.ptr 1 0 0),(3,.ptr 2 0 0),(4,.val (.int .i64 k))])
  (fun k=>[.perm,.live ⟨2,24,[[.list 0 16 (l.map (cnR 0)),.val (.int .i64 count)]]⟩,hsO (hsRow 3 4 5 6 7 8 9 10 (tickX l count k)),.uniq,.uniq,.uniq,.uniq,.uniq,.uniq,.uniq,.uniq]) (fun k=>k≤l.length) (fun k=>l.length - k) 0 (Nat.zero_le _) ?_ ?_
 ·rw [tickX_0]
  dsimp only [hsRow,List.map_nil]
  (refine qcv hB [(1,1),(6,2)] [(0,0),(2,3),(3,4),(4,5),(5,6)] [] ?_;repeat' (with_reducible first|exact trivial|refine And.intro ?_ ?_))
  all_goals (try exact dt_AhHoG_ROWT)
 ·rintro E k hk hE
  by_cases hlt:k < l.length
  ·obtain ⟨c,hck⟩ : ∃ p,l[k]?=some p:=⟨_,List.getElem?_eq_getElem hlt⟩
   have hrow:(l.map (cnR 0))[(k:Int).toNat]?=some (cnR 0 c):=by simp [hck]
   have w:=IntWalk.i64_in ((k:Int) + 1) (by omega)
   have hI:=(H.ok c (List.mem_of_getElem? hck)).1.I
   have cT:=rTick_l c ((cnB_iff c).2 hI)
   have hS:=(tick_I hI).2
   have hx:=tickX_step (count:=count) hck hS.e2
   have hfd:=tickX_find H hck
   have hd1:=tickGo_len (l.take k)
   have hd2:=tickGo_hd (l.take k)
   have ho1:=tickGo_out (l.take k) fun d hd=>(H.ok d (List.mem_of_mem_take hd)).1.I
   have hlk:=hS.e1
   have hcn : ∀ d∈(tickGo (l.take k)).1 ++ l.drop k,CnLen d:=fun d hd=>by
    rcases List.mem_append.1 hd with hd|hd
    ·obtain ⟨x,hxm,hdx,_⟩:=tickGo_mem _ d hd
     rw [hdx]
     exact (tick_I (H.ok x (List.mem_of_mem_take hxm)).1.I).1.cnLen
    ·exact hcl d (List.mem_of_mem_drop hd)
   have htk:(l.take k).length≤k:=by simp;omega
   have hht:heardT c=bif c.ticks.c.st == 0 then [⟨c.link,[],true⟩] else []:=rfl
   unfold tickX
   obtain ⟨y,hy⟩ : ∃ y,c.ticks=y:=⟨_,rfl⟩
   rw [hy] at cT hS hx hlk hht
   obtain ⟨dn,hdn⟩ : ∃ a,(tickGo (l.take k)).1=a:=⟨_,rfl⟩
   obtain ⟨S,hSs⟩ : ∃ a,(tickGo (l.take k)).2.1=a:=⟨_,rfl⟩
   obtain ⟨D,hD⟩ : ∃ a,(tickGo (l.take k)).2.2=a:=⟨_,rfl⟩
   rw [hdn] at hx hfd hd1 hcn ⊢
   rw [hSs] at hx ho1 ⊢
   rw [hD] at hx hd2 ⊢
   obtain ⟨r,hr⟩ : ∃ r,l.drop k=r:=⟨_,rfl⟩
   have hr1:r.length + k=l.length:=by rw [← hr];simp;omega
   rw [hr] at hx hfd hcn ⊢
   obtain ⟨D2,hD2⟩ : ∃ a,D ++ heardT c=a:=⟨_,rfl⟩
   rw [hD2] at hx
   obtain ⟨z,hz⟩ : ∃ z,tickX l count (k + 1)=z:=⟨_,rfl⟩
   rw [hz] at hx
   have cF:=rFind_l ⟨dn ++ r,count⟩ c.link (by dsimp only;simp;omega)
   rw [hfd] at cF
   have cP:=hput_l ⟨⟨dn ++ r,count⟩,S,D2⟩ dn.length y (by dsimp only;simp;omega) (by dsimp only;simp;omega) hcn (by have:=hS.cnt;dsimp only;omega)
   rw [hx] at cP
   dsimp only [idxJ,hoR] at cF
   dsimp only [putL0,putL1,hsRow,rsN] at cP
   dsimp only [cnR,cnL] at cT
   have p1:=pl_bytes c.out
   have p2:=pl_parts c.parts
   (try dsimp only)
   refine qAWs.cut mixed 2 (by simp only [List.take_succ_cons,List.take_zero];rfl) (by simp only [List.drop_succ_cons,List.drop_zero];rfl) (by simp only [chain];rfl) rfl (X:=Unit) (fun _=>slotsOf 59 [(1,.ptr 1 0 0),(3,.ptr 2 0 0),(4,.val (.int .i64 k))]) (fun _=>[.perm,.live ⟨2,24,[[.list 0 16 (l.map (cnR 0)),.val (.int .i64 count)]]⟩,hsO (hsRow 3 4 5 6 7 8 9 10 ⟨⟨dn ++ r,count⟩,S,D⟩),.uniq,.uniq,.uniq,.uniq,.uniq,.uniq,.uniq,.uniq]) (fun _=>True) ?_ ?_
   ·((conv=>whnf);(repeat' ((first|refine gT ?_|((with_reducible refine qif_t ?_ ?_);focus (simp [hlt];done))|((with_reducible refine qif_f ?_ ?_);focus (simp [hlt];done))|(with_reducible refine qif_i (fun _=>?_) (fun _=>?_)))<;>(conv=>whnf))))
    refine ⟨(),trivial,?_⟩
    (refine qcv hB [(1,1),(2,2)] [(0,0),(3,3),(4,4),(5,5),(6,6),(7,7),(8,8),(9,9),(10,10)] [] ?_;repeat' (with_reducible first|exact trivial|refine And.intro ?_ ?_))
    all_goals (try exact dt_AhHoG_ROWT)
   rintro ⟨⟩ -
   (try dsimp only)
   refine qAWs.block (by simp only [spine,List.cons_append,List.nil_append,List.append_assoc];rfl) ?_
   rintro E1 hE1
   refine qAWs.cut mixed 1 (by simp only [List.take_succ_cons,List.take_zero];rfl) (by simp only [List.drop_succ_cons,List.drop_zero];rfl) (by simp only [chain];rfl) rfl (X:=Unit) (fun _=>slotsOf 59 [(1,.ptr 1 0 0),(3,.ptr 2 0 0),(4,.val (.int .i64 k)),(5,.ptr 11 0 0)]) (fun _=>[.perm,.live ⟨2,24,[[.list 0 16 (l.map (cnR 0)),.val (.int .i64 count)]]⟩,hsO (hsRow 3 4 5 6 7 8 9 10 ⟨⟨dn ++ r,count⟩,S,D⟩),.uniq,.uniq,.uniq,.uniq,.uniq,.uniq,.uniq,.uniq,rsO (rsN 12 13 14 15 16 17 y),.uniq,.uniq,.uniq,.uniq,.uniq,.uniq]) (fun _=>True) ?_ ?_
   ·((conv=>whnf);(repeat' ((first|refine gT ?_|((with_reducible refine qif_t ?_ ?_);focus (simp [hlt];done))|((with_reducible refine qif_f ?_ ?_);focus (simp [hlt];done))|(with_reducible refine qif_i (fun _=>?_) (fun _=>?_))|(refine qCase_i (idxL rfl rfl rfl rfl rfl rfl (by omega) hrow) ?_)|(((with_reducible refine qco (cT) [] [(0,0)] [] [(1,11),(2,12),(3,13),(4,14),(5,15),(6,16),(7,17)] [(11,rsO (rsN 12 13 14 15 16 17 y)),(12,.uniq),(13,.uniq),(14,.uniq),(15,.uniq),(16,.uniq),(17,.uniq)] (.ptr 11 0 0) ?_);refine s_AhHoG ?_)))<;>(conv=>whnf))))
    refine ⟨(),trivial,?_⟩
    (refine qcv hB [(1,1),(2,2),(11,11)] [(0,0),(3,3),(4,4),(5,5),(6,6),(7,7),(8,8),(9,9),(10,10),(12,12),(13,13),(14,14),(15,15),(16,16),(17,17)] [] ?_;repeat' (with_reducible first|exact trivial|refine And.intro ?_ ?_))
    all_goals (try exact dt_AhHoG_ROWT)
   rintro ⟨⟩ -
   (try dsimp only)
   refine qAWs.cut mixed 2 (by simp only [List.take_succ_cons,List.take_zero];rfl) (by simp only [List.drop_succ_cons,List.drop_zero];rfl) (by simp only [chain];rfl) rfl (X:=Unit) (fun _=>slotsOf 59 [(1,.ptr 1 0 0),(3,.ptr 2 0 0),(4,.val (.int .i64 k)),(5,.ptr 11 0 0)]) (fun _=>[.perm,.live ⟨2,24,[[.list 0 16 (l.map (cnR 0)),.val (.int .i64 count)]]⟩,hsO (hsRow 3 4 5 6 7 8 9 10 ⟨⟨dn ++ r,count⟩,S,D2⟩),.uniq,.uniq,.uniq,.uniq,.uniq,.uniq,.uniq,.uniq,rsO (rsN 12 13 14 15 16 17 y),.uniq,.uniq,.uniq,.uniq,.uniq,.uniq]) (fun _=>True) ?_ ?_
   ·cases hst:(y.c.st == 0) with
    | false =>
      rw [hst,cond_false] at hht
      have e2:D2=D:=by rw [← hD2,hht];simp
      subst e2
      ((conv=>whnf);(repeat' ((first|refine gT ?_|((with_reducible refine qif_t ?_ ?_);focus (simp;done))|((with_reducible refine qif_f ?_ ?_);focus (simp;done))|(with_reducible refine qif_i (fun _=>?_) (fun _=>?_)))<;>(conv=>whnf))))
      refine ⟨(),trivial,?_⟩
      (refine qcv hB [(1,1),(2,2),(11,11)] [(0,0),(3,3),(4,4),(5,5),(6,6),(7,7),(8,8),(9,9),(10,10),(12,12),(13,13),(14,14),(15,15),(16,16),(17,17)] [] ?_;repeat' (with_reducible first|exact trivial|refine And.intro ?_ ?_))
      all_goals (try exact dt_AhHoG_ROWT)
    | true =>
      rw [hst,cond_true, ← hlk] at hht
      have e2:D2=D ++ [⟨y.c.link,[],true⟩]:=by rw [← hD2,hht]
      subst e2
      have hszD:(D.map (hdR 10)).length + 1≤1000:=by simp;omega
      ((conv=>whnf);(repeat' ((first|refine gT ?_|((with_reducible refine qif_t ?_ ?_);focus (simp;done))|((with_reducible refine qif_f ?_ ?_);focus (simp;done))|(with_reducible refine qif_i (fun _=>?_) (fun _=>?_))|(refine qCase_i (apG (nb:=40) rfl rfl rfl rfl rfl rfl rfl rfl rfl rfl ⟨Nat.zero_lt_succ _,Nat.zero_lt_succ _,rfl⟩ rfl (Nat.le_trans (Nat.mul_le_mul_right _ hszD) (by decide))) ?_))<;>(conv=>whnf))))
      refine ⟨(),trivial,?_⟩
      (refine qcv hB [(1,1),(2,2),(11,11)] [(0,0),(3,3),(4,4),(5,5),(6,6),(7,7),(8,8),(19,9),(10,10),(12,12),(13,13),(14,14),(15,15),(16,16),(17,17)] [] ?_;repeat' (with_reducible first|exact trivial|refine And.intro ?_ ?_))
      all_goals (try exact dt_AhHoG_ROWT)
   rintro ⟨⟩ -
   (try dsimp only)
   refine qAWs.fin mixed (by simp only [chain];rfl) ?_
   subst hE1
   subst hE
   ((conv=>whnf);(repeat' ((first|refine gT ?_|((with_reducible refine qif_t ?_ ?_);focus (simp [hlt];done))|((with_reducible refine qif_f ?_ ?_);focus (simp [hlt];done))|(with_reducible refine qif_i (fun _=>?_) (fun _=>?_))|(refine qCase_i (idxL rfl rfl rfl rfl rfl rfl (by omega) hrow) ?_)|(((with_reducible refine qcr (cF) [(0,0),(0,3),(0,4),(0,5),(0,6)] [] ?_);refine s_AhHoG ?_))|(((with_reducible refine qcx (cP) [(1,2),(10,11)] [(0,0),(2,3),(3,4),(4,5),(5,6),(6,7),(7,8),(8,9),(9,10),(11,12),(12,13),(13,14),(14,15),(15,16),(16,17)] [] [(17,18),(18,19),(19,20),(20,21),(21,22),(22,23)] [(2,hsO (hsRow 18 19 20 21 22 23 9 10 z)),(3,.dead),(4,.dead),(5,.dead),(6,.dead),(7,.dead),(8,.dead),(11,.dead),(12,.dead),(13,.dead),(14,.dead),(17,.dead),(18,.uniq),(19,.uniq),(20,.uniq),(21,.uniq),(22,.uniq),(23,.uniq)] (.tup []) [(1,2)] [(17,18),(18,19),(19,20),(20,21),(21,22),(22,23),(0,0),(8,9),(9,10),(14,15),(15,16)] [(2,3),(3,4),(4,5),(5,6),(6,7),(7,8),(11,12),(12,13),(13,14),(16,17)] ?_);refine s_AhHoGx ?_))|(refine qRest.go mixed (by simp only [chain];rfl) ?_))<;>(conv=>whnf))))
   refine ⟨k + 1,by omega,by omega,?_⟩
   dsimp only
   rw [hz]
   (refine qcv hB [(1,1),(2,2)] [(0,0),(18,3),(19,4),(20,5),(21,6),(22,7),(23,8),(9,9),(10,10)] [] ?_;repeat' (with_reducible first|exact trivial|refine And.intro ?_ ?_))
   all_goals (try (first|(simp [w];done)))
   all_goals (try exact dt_AhHoG_ROWT)
  ·have e:k=l.length:=by omega
   subst e
   obtain ⟨z,hz⟩ : ∃ z,tickX l count l.length=z:=⟨_,rfl⟩
   rw [hz] at hE ⊢
   refine qAWs.fin mixed (by simp only [chain];rfl) ?_
   subst hE
   ((conv=>whnf);(repeat' ((first|refine gT ?_|((with_reducible refine qif_t ?_ ?_);focus (simp [hlt];done))|((with_reducible refine qif_f ?_ ?_);focus (simp [hlt];done))|(with_reducible refine qif_i (fun _=>?_) (fun _=>?_)))<;>(conv=>whnf))))
   (refine qcv hB [(2,1)] [(0,0),(3,2),(4,3),(5,4),(6,5),(7,6),(8,7),(9,8),(10,9)] [] ?_;repeat' (with_reducible first|exact trivial|refine And.intro ?_ ?_))
   all_goals (try exact dt_AhHoG_ROWT)
end Go.Proofs.YtceohcbokbalhaaGreat
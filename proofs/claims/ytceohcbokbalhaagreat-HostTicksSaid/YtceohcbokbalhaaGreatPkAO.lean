/- Contracts and plain laws, one behind the other: AhHeD, AhHeN, HostK, AhHeL, AhHeA, AhHeB, AhHeC, AhHeG, AhHeT, AhHeS, AhHeO. Conditions are said at each. -/
import Derived.Test.YtceohcbokbalhaaGreatPkAK
import Derived.Test.YtceohcbokbalhaaGreatPkAM
import Derived.Test.YtceohcbokbalhaaGreatPkAN
import Derived.Test.YtceohcbokbalhaaGreatPkAH
namespace Go.Proofs.YtceohcbokbalhaaGreat
open Go.RowKit
set_option linter.unusedVariables false
set_option linter.unusedSimpArgs false
set_option maxRecDepth 100000
set_option maxHeartbeats 16000000
theorem s_AhHeD {p q:Prop} (k:q) (h:Hold q→p:=by first|(intro hQ;refine And.intro ?_ ?_;(focus rfl);(conv=>whnf);(repeat (refine And.intro ?_ ?_;(focus (first|exact sideT|(first|exact cns_bor rfl rfl rfl _ rfl|exact hsRow_r rfl rfl rfl (cns_pp rfl rfl rfl _) (sns_rr rfl _) (hds_rr rfl _))));(conv=>whnf)));(fail_if_success (with_reducible first|refine And.intro (eqv_i ?_) ?_|refine And.intro (ren_i ?_) ?_));exact hQ.out)|fail):p:=h ⟨k⟩
def linkOf (h:Ho) (a:Act7):Int:=bif a.fit && decide (0 < (h.conns.length:Int)) then (h.conns.getD (bring a.link h.conns.length).toNat cnZ).link else a.link
structure HsLen (z:Hs):Prop where
 conns:z.h.conns.length≤8
 ok : ∀ c∈z.h.conns,CnLen c
 out:z.out.length≤100000
 data : ∀ p∈z.out,p.2.data.length≤1000
 heard:z.heard.length≤1000
 told : ∀ x∈z.heard,x.data.length≤2048
section
variable {L I F:Prs} {h:Hp}
theorem Ren.lR {b b' sz:Nat} {rows rows' : List (List AV)} (hb:I.has b b' = true) (hr:RowsRen (qOf L I F) h rows rows'):Ren (qOf L I F) h (.list b sz rows) (.list b' sz rows') :=
 .list _ _ _ _ _ ((Prs.has_iff I _ _).1 hb) hr.1 hr.2.1 hr.2.2
end
abbrev hoO (row:List AV):Own := .live ⟨2,24,[row]⟩
def spineF (fn:Func):List Code:=match fn.body with|some c=>spine c|none=>[]
theorem qAWs.ofF {P:Program} {B:Base} {fn:Func} {c:Code} (hb:fn.body=some c) {L L2:List Code} (hL:spine c=L) (k:Nat) (e2:L.drop k=L2) {Q:AExit→List AV→List Own→Prop} {sl:List AV} {h:List Own} (H:qAWs P B L2 Q sl h):qAWs P B ((spineF fn).drop k) Q sl h:=by
 subst hL e2;unfold spineF;rw [hb];exact H
theorem qAWs.toF {P:Program} {B:Base} {fn:Func} {c:Code} (hb:fn.body=some c) {L L2:List Code} (hL:spine c=L) (k:Nat) (e2:L.drop k=L2) {Q:AExit→List AV→List Own→Prop} {sl:List AV} {h:List Own} (H:qAWs P B ((spineF fn).drop k) Q sl h):qAWs P B L2 Q sl h:=by
 subst hL e2;unfold spineF at H;rw [hb] at H;exact H
abbrev stF (may:Bool) (lk k:Int):List AV:=slotsOf 224 [(2,.ptr 5 0 0),(3,.ptr 6 0 0),(4,.ptr 7 0 0),(5,.val (.bool false)),(6,.ptr 12 0 0),(7,.val (.bool may)),(8,.ptr 13 0 0),(9,.val (.int .i64 1)),(10,.ptr 14 0 0),(11,.val (.slice none 0 0)),(12,.val (.slice none 0 0)),(13,.val (.int .i64 0)),(14,.val (.int .i64 lk)),(49,.val (.int .i64 k))]
abbrev hoL (l:List Cn) (count:Int):Own:=hoO [.list 1 16 (l.map (cnP 2 3 4)),.val (.int .i64 count)]
abbrev hoN:Own:=hoO [.val (.slice none 0 0),.val (.int .i64 0)]
abbrev stG (l:List Cn) (count:Int) (a:Act7):List Own:=[.perm,.perm,.perm,.perm,.perm,hoL l count,.live ⟨13,41,[alR 0 a]⟩,hoN,.uniq,.uniq,.uniq,.uniq,hoO [.glist 8 16 (l.map (cnG 9 10 11)),.val (.int .i64 count)],hsO [.val (.slice none 0 0),.val (.int .i64 0),.val (.slice none 0 0),.val (.slice none 0 0)],hoN]
abbrev okF (zo:List (Int × Sg)) (zd:List Hd):List AV:=slotsOf 224 [(2,.ptr 5 0 0),(4,.ptr 6 0 0),(5,.val (.bool false)),(6,.ptr 11 0 0),(8,.ptr 12 0 0),(9,.val (.int .i64 0)),(10,.ptr 21 0 0),(11,.glist 26 8 (zo.map (snG 27))),(12,.glist 28 3 (zd.map (hdG 29))),(13,.val (.int .i64 0))]
abbrev okG (l:List Cn) (count:Int) (zl:List Cn) (zc:Int) (zo:List (Int × Sg)) (zd:List Hd):List Own:=[.perm,.perm,.perm,.perm,.perm,hoL l count,hoN,.uniq,.uniq,.uniq,.uniq,hoO [.glist 7 16 (l.map (cnG 8 9 10)),.val (.int .i64 count)],hsO (hsRow 13 14 15 16 17 18 19 20 ⟨⟨zl,zc⟩,zo,zd⟩),.uniq,.uniq,.uniq,.uniq,.uniq,.uniq,.uniq,.uniq,hoO [.glist 22 16 (zl.map (cnG 23 24 25)),.val (.int .i64 zc)],.uniq,.uniq,.uniq,.uniq,.uniq,.uniq,.uniq,.uniq]
abbrev qEnd (B:Base) (res:AV) (L1:List Own):AExit→List AV→List Own→Prop:=evEnd Tryz.prog B [.cell 4 24,.tmp 5] res L1
theorem dt_AhHeD_ROWS {p:Prop} (h:p:=by first|((first|rfl|exact hs0_vg rfl (cns_gp rfl rfl rfl _)|exact RowsRen.one (.cons (Ren.glR rfl (cns_gp rfl rfl rfl _)) (.cons (.val _) .nil))|exact RowsRen.one (.cons (Ren.glR rfl (cns_gg rfl rfl rfl _)) (.cons (.val _) .nil))|exact hsRow_r rfl rfl rfl (cns_pp rfl rfl rfl _) (sns_rr rfl _) (hds_rr rfl _)|exact RowsRen.one (.cons (Ren.glR rfl (cns_pp rfl rfl rfl _)) (.cons (.val _) .nil))|exact RowsRen.one (.cons (Ren.lR rfl (cns_pp rfl rfl rfl _)) (.cons (.val _) .nil))|exact sns_gg rfl _|(refine RowsRen.one ?_;(repeat (refine Cells.cons ?_ ?_;focus (first|exact .val _|exact Ren.ll rfl _|fail)));exact Cells.nil)|(exact rowsT));done)|fail):p:=h
theorem step7H_l (l:List Cn) (count:Int) (a:Act7) (res:AV) (L1:List Own) (hll:l.length≤3000) (hc : ∀ c∈l,CnLen c)
 (H : ∀ B:Base,B.h=ofL [.perm,.perm,.perm,.perm,.perm]→qAWs Tryz.prog B ((spineF Tryz.f15).drop 13) (qEnd B res L1) (stF (hostB ⟨l,count⟩) (linkOf ⟨l,count⟩ a) (bring a.dw 14)) (stG l count a)) :
 ACallL Tryz.prog 15 [.agg [.list 1 16 (l.map (cnP 2 3 4)),.val (.int .i64 count)],.agg (alR 0 a)] [.perm,.perm,.perm,.perm,.perm] res L1:=by
 have pz:=pl_bytes a.s.data
 have pb:=pl_bytes a.b
 have cC:=copyHost_l ⟨l,count⟩ (by dsimp only;omega) hc
 dsimp only [hoR,alR,alL] at cC ⊢
 refine ACallL.of_AWs Tryz.func15 rfl (fun a w=>Tryz.call15 a w) (congrArg Array.toList Tryz.results15) Tryz.ntmps15 (by simp only [spine,List.cons_append,List.nil_append,List.append_assoc];rfl) fun B hB=>?_
 have cM:=rHost_l ⟨l,count⟩ (by dsimp only;omega) hc
 have bk:=bring_bd a.dw 14 (by decide)
 have cW:=bring_l a.dw 14 (by decide) (by decide)
 obtain ⟨may,hmay⟩ : ∃ b,hostB ⟨l,count⟩=b:=⟨_,rfl⟩
 rw [hmay] at cM H
 dsimp only [hoR] at cM
 obtain ⟨k,hk⟩ : ∃ k,bring a.dw 14=k:=⟨_,rfl⟩
 rw [hk] at bk cW H
 obtain ⟨lk,hlk⟩ : ∃ v,linkOf ⟨l,count⟩ a=v:=⟨_,rfl⟩
 rw [hlk] at H
 refine qAWs.cut mixed 13 (by simp only [List.take_succ_cons,List.take_zero];rfl) (by simp only [List.drop_succ_cons,List.drop_zero];rfl) (by simp only [chain];rfl) rfl (X:=Unit) (fun _=>stF may lk k) (fun _=>stG l count a) (fun _=>True) ?_ ?_
 ·have llen:(l.map (cnP 2 3 4)).length=l.length:=by simp
  unfold linkOf at hlk
  dsimp only at hlk
  cases hf:a.fit with
  | false =>
    have ea:stG l count a=stG l count { a with fit:=false }:=by rw [← hf]
    rw [hf,Bool.false_and,cond_false] at hlk
    subst hlk
    ((conv=>whnf);(repeat' ((first|refine gT ?_|((with_reducible refine qif_t ?_ ?_);focus (simp;done))|((with_reducible refine qif_f ?_ ?_);focus (simp;done))|(with_reducible refine qif_i (fun _=>?_) (fun _=>?_))|((with_reducible refine qcp (cW) ?_);refine pT ?_)|(((with_reducible refine qcr (cM) [(0,0),(0,1),(0,2),(0,3),(0,4)] [] ?_);refine s_AhHeD ?_))|(((with_reducible refine qco (cC) [] [(0,0),(0,1),(0,2),(0,3),(0,4)] [] [(1,8),(2,9),(3,10),(4,11)] [(8,.uniq),(9,.uniq),(10,.uniq),(11,.uniq)] (.agg [.glist 8 16 (l.map (cnG 9 10 11)),.val (.int .i64 count)]) ?_);refine s_AhHeD ?_)))<;>(conv=>whnf))))
    refine ⟨(),trivial,?_⟩
    rw [ea]
    as_aux_lemma =>
     (refine qcv hB [(5,5),(6,6),(7,7),(12,12),(13,13),(14,14)] [(0,0),(1,1),(2,2),(3,3),(4,4),(8,8),(9,9),(10,10),(11,11)] [] ?_;repeat' (with_reducible first|exact trivial|refine And.intro ?_ ?_))
     all_goals (try exact dt_AhHeD_ROWS)
  | true =>
    have ea:stG l count a=stG l count { a with fit:=true }:=by rw [← hf]
    rw [hf,Bool.true_and] at hlk
    by_cases h0:0 < l.length
    ·have h0' : decide (0 < ((l.map (cnP 2 3 4)).length:Int))=true:=by rw [llen];simpa using h0
     rw [show decide (0 < (l.length:Int))=true by simpa using h0,cond_true] at hlk
     have cB:=bring_l a.link l.length (by omega) (by omega)
     have bb:=bring_bd a.link l.length (by omega)
     obtain ⟨j,hj⟩ : ∃ j:Nat,bring a.link l.length=j:=⟨(bring a.link l.length).toNat,by omega⟩
     rw [hj] at cB bb hlk
     have hjl:j < l.length:=by omega
     obtain ⟨c,hck⟩ : ∃ p,l[j]?=some p:=⟨_,List.getElem?_eq_getElem hjl⟩
     have hg:l.getD (j:Int).toNat cnZ=c:=by simp [List.getD,hck]
     rw [hg] at hlk
     subst hlk
     have hrow:(l.map (cnP 2 3 4))[(j:Int).toNat]?=some (cnP 2 3 4 c):=by simp [hck]
     rw [← llen] at cB
     ((conv=>whnf);(repeat' ((first|refine gT ?_|((with_reducible refine qif_t ?_ ?_);focus (simp [hjl];done))|((with_reducible refine qif_f ?_ ?_);focus (simp [hjl];done))|(with_reducible refine qif_i (fun _=>?_) (fun _=>?_))|((with_reducible refine qcp (cW) ?_);refine pT ?_)|((with_reducible refine qcp (cB) ?_);refine pT ?_)|(refine qCase_i (idxL rfl rfl rfl rfl rfl rfl (by omega) hrow) ?_)|(((with_reducible refine qcr (cM) [(0,0),(0,1),(0,2),(0,3),(0,4)] [] ?_);refine s_AhHeD ?_))|(((with_reducible refine qco (cC) [] [(0,0),(0,1),(0,2),(0,3),(0,4)] [] [(1,8),(2,9),(3,10),(4,11)] [(8,.uniq),(9,.uniq),(10,.uniq),(11,.uniq)] (.agg [.glist 8 16 (l.map (cnG 9 10 11)),.val (.int .i64 count)]) ?_);refine s_AhHeD ?_)))<;>(conv=>whnf))))
     refine ⟨(),trivial,?_⟩
     rw [ea]
     as_aux_lemma =>
      (refine qcv hB [(5,5),(6,6),(7,7),(12,12),(13,13),(14,14)] [(0,0),(1,1),(2,2),(3,3),(4,4),(8,8),(9,9),(10,10),(11,11)] [] ?_;repeat' (with_reducible first|exact trivial|refine And.intro ?_ ?_))
      all_goals (try exact dt_AhHeD_ROWS)
    ·have h0' : decide (0 < ((l.map (cnP 2 3 4)).length:Int))=false:=by rw [llen];simpa using h0
     rw [show decide (0 < (l.length:Int))=false by simpa using h0,cond_false] at hlk
     subst hlk
     ((conv=>whnf);(repeat' ((first|refine gT ?_|((with_reducible refine qif_t ?_ ?_);focus (simp;done))|((with_reducible refine qif_f ?_ ?_);focus (simp;done))|(with_reducible refine qif_i (fun _=>?_) (fun _=>?_))|((with_reducible refine qcp (cW) ?_);refine pT ?_)|(((with_reducible refine qcr (cM) [(0,0),(0,1),(0,2),(0,3),(0,4)] [] ?_);refine s_AhHeD ?_))|(((with_reducible refine qco (cC) [] [(0,0),(0,1),(0,2),(0,3),(0,4)] [] [(1,8),(2,9),(3,10),(4,11)] [(8,.uniq),(9,.uniq),(10,.uniq),(11,.uniq)] (.agg [.glist 8 16 (l.map (cnG 9 10 11)),.val (.int .i64 count)]) ?_);refine s_AhHeD ?_)))<;>(conv=>whnf))))
     refine ⟨(),trivial,?_⟩
     rw [ea]
     as_aux_lemma =>
      (refine qcv hB [(5,5),(6,6),(7,7),(12,12),(13,13),(14,14)] [(0,0),(1,1),(2,2),(3,3),(4,4),(8,8),(9,9),(10,10),(11,11)] [] ?_;repeat' (with_reducible first|exact trivial|refine And.intro ?_ ?_))
      all_goals (try exact dt_AhHeD_ROWS)
 rintro ⟨⟩ -
 exact qAWs.toF (fn:=Tryz.f15) rfl (by simp only [spine,List.cons_append,List.nil_append,List.append_assoc];rfl) 13 (by simp only [List.drop_succ_cons,List.drop_zero]) (H B hB)
theorem step7T_l (l:List Cn) (count:Int) (z:Hs) (hll:l.length≤3000) (hc : ∀ c∈l,CnLen c) (hL:HsLen z) (B:Base) (hB:B.h=ofL [.perm,.perm,.perm,.perm,.perm]) :
 qAWs Tryz.prog B ((spineF Tryz.f15).drop 14) (qEnd B (.tup [.agg [.glist 5 16 (z.h.conns.map (cnP 6 7 8)),.val (.int .i64 z.h.count)],.val (.bool true)]) [.perm,.perm,.perm,.perm,.perm,.uniq,.uniq,.uniq,.uniq]) (okF z.out z.heard) (okG l count z.h.conns z.h.count z.out z.heard):=by
 have cE:=eqHost_l ⟨l,count⟩ (by dsimp only;omega) hc
 have cE2:=eqHost_l z.h (by have:=hL.conns;omega) hL.ok
 have cSm:=same_l z.out (by have:=hL.out;omega) (fun x hx=>by have:=hL.data x hx;omega)
 have cHd:=eqHeards_l z.heard (by have:=hL.heard;omega) (fun x hx=>by have:=hL.told x hx;omega)
 have sH:=spHost_l z.h.conns z.h.count (by have:=hL.conns;omega) hL.ok
 have sD:=spHeards_l z.heard (by have:=hL.heard;omega) (fun x hx=>by have:=hL.told x hx;omega)
 obtain ⟨⟨zl,zc⟩,zo,zd⟩:=z
 dsimp only at sH cE2 cSm cHd sD
 dsimp only [hoR] at cE cE2 ⊢
 refine qAWs.ofF (fn:=Tryz.f15) rfl (by simp only [spine,List.cons_append,List.nil_append,List.append_assoc];rfl) 14 (by simp only [List.drop_succ_cons,List.drop_zero];rfl) ?_
 -- the comparing,what is let go of
 refine qAWs.cut mixed 4 (by simp only [List.take_succ_cons,List.take_zero];rfl) (by simp only [List.drop_succ_cons,List.drop_zero];rfl) (by simp only [chain];rfl) rfl (X:=Unit) (fun _=>slotsOf 224 [(2,.ptr 5 0 0),(4,.ptr 6 0 0),(6,.ptr 11 0 0),(8,.ptr 12 0 0),(10,.ptr 21 0 0),(11,.glist 26 8 (zo.map (snG 27))),(12,.glist 28 3 (zd.map (hdG 29)))])
  (fun _=>[.perm,.perm,.perm,.perm,.perm,hoO [.list 1 16 (l.map (cnP 2 3 4)),.val (.int .i64 count)],hoO [.val (.slice none 0 0),.val (.int .i64 0)],.uniq,.uniq,.uniq,.uniq,hoO [.glist 7 16 (l.map (cnG 8 9 10)),.val (.int .i64 count)],hsO (hsRow 13 14 15 16 17 18 19 20 ⟨⟨zl,zc⟩,zo,zd⟩),.uniq,.uniq,.uniq,.uniq,.uniq,.uniq,.uniq,.uniq,hoO [.glist 22 16 (zl.map (cnG 23 24 25)),.val (.int .i64 zc)],.uniq,.uniq,.uniq,.uniq,.uniq,.uniq,.uniq,.uniq]) (fun _=>True) ?_ ?_
 ·((conv=>whnf);(repeat' ((first|refine gT ?_|((with_reducible refine qif_t ?_ ?_);focus (simp;done))|((with_reducible refine qif_f ?_ ?_);focus (simp;done))|(with_reducible refine qif_i (fun _=>?_) (fun _=>?_))|((with_reducible refine qcp (num17_l _) ?_);refine pT ?_)|(((with_reducible refine qcr (cE) [(0,0),(0,1),(0,2),(0,3),(0,4),(0,7),(0,8),(0,9),(0,10)] [] ?_);refine s_AhHeD ?_)))<;>(conv=>whnf))))
  refine ⟨(),trivial,?_⟩
  as_aux_lemma =>
   (refine qcv hB [(5,5),(6,6),(11,11),(12,12),(21,21)] [(0,0),(1,1),(2,2),(3,3),(4,4),(7,7),(8,8),(9,9),(10,10),(13,13),(14,14),(15,15),(16,16),(17,17),(18,18),(19,19),(20,20),(22,22),(23,23),(24,24),(25,25),(26,26),(27,27),(28,28),(29,29)] [] ?_;repeat' (with_reducible first|exact trivial|refine And.intro ?_ ?_))
   all_goals (try exact dt_AhHeD_ROWS)
 rintro ⟨⟩ -
 (try dsimp only)
 refine qAWs.cut mixed 1 (by simp only [List.take_succ_cons,List.take_zero];rfl) (by simp only [List.drop_succ_cons,List.drop_zero];rfl) (by simp only [chain];rfl) rfl (X:=Unit) (fun _=>slotsOf 224 [(2,.ptr 5 0 0),(4,.ptr 6 0 0),(6,.ptr 11 0 0),(8,.ptr 12 0 0),(10,.ptr 21 0 0),(11,.glist 26 8 (zo.map (snG 27))),(12,.glist 28 3 (zd.map (hdG 29))),(18,.val (.bool true))])
  (fun _=>[.perm,.perm,.perm,.perm,.perm,hoO [.list 1 16 (l.map (cnP 2 3 4)),.val (.int .i64 count)],hoO [.val (.slice none 0 0),.val (.int .i64 0)],.uniq,.uniq,.uniq,.uniq,hoO [.glist 7 16 (l.map (cnG 8 9 10)),.val (.int .i64 count)],hsO (hsRow 13 14 15 16 17 18 19 20 ⟨⟨zl,zc⟩,zo,zd⟩),.uniq,.uniq,.uniq,.uniq,.uniq,.uniq,.uniq,.uniq,hoO [.glist 22 16 (zl.map (cnG 23 24 25)),.val (.int .i64 zc)],.uniq,.uniq,.uniq,.uniq,.uniq,.uniq,.uniq,.uniq]) (fun _=>True) ?_ ?_
 ·((conv=>whnf);(repeat' ((first|refine gT ?_|((with_reducible refine qif_t ?_ ?_);focus (simp;done))|((with_reducible refine qif_f ?_ ?_);focus (simp;done))|(with_reducible refine qif_i (fun _=>?_) (fun _=>?_))|(((with_reducible refine qcr (cE2) [(0,0),(0,13),(0,14),(0,15),(0,16),(0,22),(0,23),(0,24),(0,25)] [] ?_);refine s_AhHeD ?_))|(((with_reducible refine qcr (cSm) [(0,0),(0,17),(0,18),(0,26),(0,27)] [] ?_);refine s_AhHeD ?_))|(((with_reducible refine qcr (cHd) [(0,0),(0,19),(0,20),(0,28),(0,29)] [] ?_);refine s_AhHeD ?_)))<;>(conv=>whnf))))
  refine ⟨(),trivial,?_⟩
  as_aux_lemma =>
   (refine qcv hB [(5,5),(6,6),(11,11),(12,12),(21,21)] [(0,0),(1,1),(2,2),(3,3),(4,4),(7,7),(8,8),(9,9),(10,10),(13,13),(14,14),(15,15),(16,16),(17,17),(18,18),(19,19),(20,20),(22,22),(23,23),(24,24),(25,25),(26,26),(27,27),(28,28),(29,29)] [] ?_;repeat' (with_reducible first|exact trivial|refine And.intro ?_ ?_))
   all_goals (try exact dt_AhHeD_ROWS)
 rintro ⟨⟩ -
 (try dsimp only)
 refine qAWs.cut mixed 2 (by simp only [List.take_succ_cons,List.take_zero];rfl) (by simp only [List.drop_succ_cons,List.drop_zero];rfl) (by simp only [chain];rfl) rfl (X:=Unit) (fun _=>slotsOf 224 [(2,.ptr 5 0 0),(4,.ptr 6 0 0),(6,.ptr 11 0 0),(8,.ptr 12 0 0),(11,.glist 21 8 (zo.map (snG 22))),(18,.val (.bool true))])
  (fun _=>[.perm,.perm,.perm,.perm,.perm,hoO [.list 1 16 (l.map (cnP 2 3 4)),.val (.int .i64 count)],hoO [.val (.slice none 0 0),.val (.int .i64 0)],.uniq,.uniq,.uniq,.uniq,hoO [.glist 7 16 (l.map (cnG 8 9 10)),.val (.int .i64 count)],hsO (hsRow 13 14 15 16 17 18 19 20 ⟨⟨zl,zc⟩,zo,zd⟩),.uniq,.uniq,.uniq,.uniq,.uniq,.uniq,.uniq,.uniq,.uniq,.uniq]) (fun _=>True) ?_ ?_
 ·((conv=>whnf);(repeat' ((first|refine gT ?_|((with_reducible refine qif_t ?_ ?_);focus (simp;done))|((with_reducible refine qif_f ?_ ?_);focus (simp;done))|(with_reducible refine qif_i (fun _=>?_) (fun _=>?_))|(((with_reducible refine qco (sH) [] [(0,0),(1,22),(2,23),(3,24),(4,25)] [] [] [(22,.dead),(23,.dead),(24,.dead),(25,.dead)] (.tup []) ?_);refine s_AhHeD ?_))|(((with_reducible refine qco (sD) [] [(0,0),(1,28),(2,29)] [] [] [(28,.dead),(29,.dead)] (.tup []) ?_);refine s_AhHeD ?_)))<;>(conv=>whnf))))
  refine ⟨(),trivial,?_⟩
  as_aux_lemma =>
   (refine qcv hB [(5,5),(6,6),(11,11),(12,12)] [(0,0),(1,1),(2,2),(3,3),(4,4),(7,7),(8,8),(9,9),(10,10),(13,13),(14,14),(15,15),(16,16),(17,17),(18,18),(19,19),(20,20),(26,21),(27,22)] [] ?_;repeat' (with_reducible first|exact trivial|refine And.intro ?_ ?_))
   all_goals (try exact dt_AhHeD_ROWS)
 rintro ⟨⟩ -
 (try dsimp only)
 -- the bytes of what was sent are let go of,slice by slice
 refine qAWs.cut mixed 2 (by simp only [List.take_succ_cons,List.take_zero];rfl) (by simp only [List.drop_succ_cons,List.drop_zero];rfl) (by simp only [chain];rfl) rfl (X:=Unit) (fun _=>slotsOf 224 [(2,.ptr 5 0 0),(4,.ptr 6 0 0),(6,.ptr 11 0 0),(8,.ptr 12 0 0),(18,.val (.bool true))])
  (fun _=>[.perm,.perm,.perm,.perm,.perm,hoO [.list 1 16 (l.map (cnP 2 3 4)),.val (.int .i64 count)],hoO [.val (.slice none 0 0),.val (.int .i64 0)],.uniq,.uniq,.uniq,.uniq,hoO [.glist 7 16 (l.map (cnG 8 9 10)),.val (.int .i64 count)],hsO (hsRow 13 14 15 16 17 18 19 20 ⟨⟨zl,zc⟩,zo,zd⟩),.uniq,.uniq,.uniq,.uniq,.uniq,.uniq,.uniq,.uniq,.uniq,.dead]) (fun _=>True) ?_ ?_
 ·((conv=>whnf);(repeat' ((first|refine gT ?_|((with_reducible refine qif_t ?_ ?_);focus (simp;done))|((with_reducible refine qif_f ?_ ?_);focus (simp;done))|(with_reducible refine qif_i (fun _=>?_) (fun _=>?_)))<;>(conv=>whnf))))
  refine qAW.ofD 21 22 11 rfl rfl rfl (by decide) (fun p hp=>by have:=hL.data p hp;omega) fun D f sd hsl=>?_
  have spB : ∀ (v:Value) (w:World),BySp D w v→Calls Tryz.prog 44 #[v] w fun e w' => e = .returned (.tuple #[])∧Sp D (fun _=>False) w w' := fun v w hv=>bytes_sp D (fun _=>False) (fun _ _ h=>h) v w hv
  refine AD.cast (sl' := slotsOf 224 [(2,.ptr 5 0 0),(4,.ptr 6 0 0),(6,.ptr 11 0 0),(8,.ptr 12 0 0),(11,.glist 21 8 (rowsV zo.length 8 f)),(18,.val (.bool true)),(19,.val (.int .i64 ((0:Nat):Int)))]) (h' := [.perm,.perm,.perm,.perm,.perm,hoO [.list 1 16 (l.map (cnP 2 3 4)),.val (.int .i64 count)],hoO [.val (.slice none 0 0),.val (.int .i64 0)],.uniq,.uniq,.uniq,.uniq,hoO [.glist 7 16 (l.map (cnG 8 9 10)),.val (.int .i64 count)],hsO (hsRow 13 14 15 16 17 18 19 20 ⟨⟨zl,zc⟩,zo,zd⟩),.uniq,.uniq,.uniq,.uniq,.uniq,.uniq,.uniq,.uniq,.uniq,.dead]) (by kernel_rfl) (by kernel_rfl) ?_
  refine AD.loop (by simp only [spine,List.cons_append,List.nil_append,List.append_assoc];rfl) (X:=Nat) (fun i=>slotsOf 224 [(2,.ptr 5 0 0),(4,.ptr 6 0 0),(6,.ptr 11 0 0),(8,.ptr 12 0 0),(11,.glist 21 8 (rowsV zo.length 8 f)),(18,.val (.bool true)),(19,.val (.int .i64 i))]) (fun i=>i≤zo.length) (fun i=>zo.length - i) 0 (Nat.zero_le _) fun E i hi hE=>?_
  have hlen:(((rowsV zo.length 8 f).length:Nat):Int)=zo.length:=by rw [rowsV_len]
  have w:=IntWalk.i64_in ((i:Int) + 1) (by have:=hL.out;dsimp only at this;omega)
  by_cases hlt:i < zo.length
  ·obtain ⟨vp,vn,vc,h7⟩:=hsl i hlt
   have hrow:(rowsV zo.length 8 f)[(i:Int).toNat]?=some [.val (f i 0),.val (f i 1),.val (f i 2),.val (f i 3),.val (f i 4),.val (f i 5),.val (f i 6),.val (.slice vp vn vc)]:=by
    rw [show (i:Int).toNat=i by omega,rowsV_at hlt, ← h7];rfl
   refine qADs.go mixed fun B' hB' => ?_
   ((conv=>whnf);(repeat' ((first|refine gT ?_|((with_reducible refine qif_t ?_ ?_);focus (simp [hlt,hlen];done))|((with_reducible refine qif_f ?_ ?_);focus (simp [hlt,hlen];done))|(with_reducible refine qif_i (fun _=>?_) (fun _=>?_)))<;>(conv=>whnf))))
   refine ⟨_,_,qConv.same,noPerm rfl,?_⟩
   refine qADs.go mixed fun B' hB' => ?_
   ((conv=>whnf);(repeat' ((first|refine gT ?_|((with_reducible refine qif_t ?_ ?_);focus (simp [hlt,hlen];done))|((with_reducible refine qif_f ?_ ?_);focus (simp [hlt,hlen];done))|(with_reducible refine qif_i (fun _=>?_) (fun _=>?_)))<;>(conv=>whnf))))
   refine ⟨_,_,qConv.same,noPerm rfl,?_⟩
   refine qADs.block (by simp only [spine,List.cons_append,List.nil_append,List.append_assoc];rfl) ?_
   refine qADs.spoil (split_at (n:=6) (by simp only [List.take_succ_cons,List.take_zero];rfl) (by simp only [List.drop_succ_cons,List.drop_zero];rfl)) rfl rfl (fun a w=>Tryz.call44 a w) spB sd fun B' hB' => ?_
   ((conv=>whnf);(repeat' ((first|refine gT ?_|((with_reducible refine qif_t ?_ ?_);focus (simp [hlt,hlen];done))|((with_reducible refine qif_f ?_ ?_);focus (simp [hlt,hlen];done))|(with_reducible refine qif_i (fun _=>?_) (fun _=>?_))|(refine qCase_i (idxG rfl rfl rfl rfl rfl rfl (by omega) hrow) ?_))<;>(conv=>whnf))))
   refine ⟨noPerm rfl,.slice vp vn vc,rfl,⟨i,hlt,h7.symm⟩,?_⟩
   (conv=>whnf)
   refine qADs.nil ?_
   (conv=>whnf)
   refine qADs.go mixed fun B' hB=>?_
   ((conv=>whnf);(repeat' ((first|refine gT ?_|((with_reducible refine qif_t ?_ ?_);focus (simp;done))|((with_reducible refine qif_f ?_ ?_);focus (simp;done))|(with_reducible refine qif_i (fun _=>?_) (fun _=>?_)))<;>(conv=>whnf))))
   refine ⟨slotsOf 224 [(2,.ptr 5 0 0),(4,.ptr 6 0 0),(6,.ptr 11 0 0),(8,.ptr 12 0 0),(11,.glist 21 8 (rowsV zo.length 8 f)),(18,.val (.bool true)),(19,.val (.int .i64 ((i + 1:Nat):Int)))],[.perm,.perm,.perm,.perm,.perm,hoO [.list 1 16 (l.map (cnP 2 3 4)),.val (.int .i64 count)],hoO [.val (.slice none 0 0),.val (.int .i64 0)],.uniq,.uniq,.uniq,.uniq,hoO [.glist 7 16 (l.map (cnG 8 9 10)),.val (.int .i64 count)],hsO (hsRow 13 14 15 16 17 18 19 20 ⟨⟨zl,zc⟩,zo,zd⟩),.uniq,.uniq,.uniq,.uniq,.uniq,.uniq,.uniq,.uniq,.uniq,.dead],?_,noPerm rfl,qADs.nil ?_⟩
   ·as_aux_lemma =>
     (refine qcv hB [(5,5),(6,6),(11,11),(12,12)] [(0,0),(1,1),(2,2),(3,3),(4,4),(7,7),(8,8),(9,9),(10,10),(13,13),(14,14),(15,15),(16,16),(17,17),(18,18),(19,19),(20,20),(21,21)] [] ?_;repeat' (with_reducible first|exact trivial|refine And.intro ?_ ?_))
     all_goals (try (first|(simp [w];done)))
     all_goals (try exact dt_AhHeD_ROWS)
   ·subst hE
    exact ⟨rfl,i + 1,by omega,by omega,rfl⟩
  ·have e:i=zo.length:=by omega
   subst e
   refine qADs.go mixed fun B' hB' => ?_
   ((conv=>whnf);(repeat' ((first|refine gT ?_|((with_reducible refine qif_t ?_ ?_);focus (simp [hlt,hlen];done))|((with_reducible refine qif_f ?_ ?_);focus (simp [hlt,hlen];done))|(with_reducible refine qif_i (fun _=>?_) (fun _=>?_)))<;>(conv=>whnf))))
   refine ⟨_,_,qConv.same,noPerm rfl,?_⟩
   refine qADs.go mixed fun B' hB' => ?_
   ((conv=>whnf);(repeat' ((first|refine gT ?_|((with_reducible refine qif_t ?_ ?_);focus (simp [hlt,hlen];done))|((with_reducible refine qif_f ?_ ?_);focus (simp [hlt,hlen];done))|(with_reducible refine qif_i (fun _=>?_) (fun _=>?_)))<;>(conv=>whnf))))
   refine ⟨noPerm rfl,?_⟩
   subst hE
   (conv=>whnf)
   refine ⟨(),trivial,?_⟩
   as_aux_lemma =>
    (refine qcv hB [(5,5),(6,6),(11,11),(12,12)] [(0,0),(1,1),(2,2),(3,3),(4,4),(7,7),(8,8),(9,9),(10,10),(13,13),(14,14),(15,15),(16,16),(17,17),(18,18),(19,19),(20,20),(21,21)] [] ?_;repeat' (with_reducible first|exact trivial|refine And.intro ?_ ?_))
    all_goals (try exact dt_AhHeD_ROWS)
 rintro ⟨⟩ -
 (try dsimp only)
 refine qAWs.fin mixed (by simp only [chain];rfl) ?_
 ((conv=>whnf);(repeat' ((first|refine gT ?_|((with_reducible refine qif_t ?_ ?_);focus (simp;done))|((with_reducible refine qif_f ?_ ?_);focus (simp;done))|(with_reducible refine qif_i (fun _=>?_) (fun _=>?_))|(((with_reducible refine qcr (cE) [(0,0),(0,1),(0,2),(0,3),(0,4),(0,7),(0,8),(0,9),(0,10)] [] ?_);refine s_AhHeD ?_)))<;>(conv=>whnf))))
 as_aux_lemma =>
  (refine qcv hB [] [(0,0),(1,1),(2,2),(3,3),(4,4),(13,5),(14,6),(15,7),(16,8)] [] ?_;repeat' (with_reducible first|exact trivial|refine And.intro ?_ ?_))
  all_goals (try exact dt_AhHeD_ROWS)
theorem s_AhHeN {p q:Prop} (k:q) (h:Hold q→p:=by first|(intro hQ;refine And.intro ?_ ?_;(focus rfl);(conv=>whnf);(repeat (refine And.intro ?_ ?_;(focus (first|exact sideT|(first|exact cns_bor rfl rfl rfl _ rfl|exact hsRow_r rfl rfl rfl (cns_pp rfl rfl rfl _) (sns_rr rfl _) (hds_rr rfl _))));(conv=>whnf)));(fail_if_success (with_reducible first|refine And.intro (eqv_i ?_) ?_|refine And.intro (ren_i ?_) ?_));exact hQ.out)|fail):p:=h ⟨k⟩
theorem s_AhHeNx {p q:Prop} (k:q) (h:Hold q→p:=by first|(intro hQ;refine And.intro ?_ (And.intro ?_ (And.intro ?_ (And.intro ?_ ?_)));(focus kernel_rfl);(focus kernel_rfl);(focus kernel_rfl);(focus kernel_rfl);(conv=>whnf);(repeat (refine And.intro ?_ ?_;(focus (first|exact sideT|(first|exact cns_bor rfl rfl rfl _ rfl|exact hsRow_r rfl rfl rfl (cns_pp rfl rfl rfl _) (sns_rr rfl _) (hds_rr rfl _))));(conv=>whnf)));(fail_if_success (with_reducible first|refine And.intro (eqv_i ?_) ?_|refine And.intro (ren_i ?_) ?_));exact hQ.out)|fail):p:=h ⟨k⟩
theorem dt_AhHeN_ROWS {p:Prop} (h:p:=by first|((first|rfl|exact Ren.vgnil _ _|exact hs0_vg rfl (cns_gp rfl rfl rfl _)|exact RowsRen.one (.cons (Ren.glR rfl (cns_gp rfl rfl rfl _)) (.cons (.val _) .nil))|exact RowsRen.one (.cons (Ren.glR rfl (cns_gg rfl rfl rfl _)) (.cons (.val _) .nil))|exact hsRow_r rfl rfl rfl (cns_pp rfl rfl rfl _) (sns_rr rfl _) (hds_rr rfl _)|exact RowsRen.one (.cons (Ren.glR rfl (cns_pp rfl rfl rfl _)) (.cons (.val _) .nil))|exact RowsRen.one (.cons (Ren.lR rfl (cns_pp rfl rfl rfl _)) (.cons (.val _) .nil))|exact sns_gg rfl _|(exact rowsT));done)|fail):p:=h
abbrev noF (e:Int):List AV:=slotsOf 224 [(2,.ptr 5 0 0),(4,.ptr 6 0 0),(5,.val (.bool false)),(6,.ptr 11 0 0),(9,.val (.int .i64 e)),(11,.val (.slice none 0 0)),(12,.val (.slice none 0 0)),(13,.val (.int .i64 e))]
abbrev noG (l:List Cn) (count:Int):List Own:=[.perm,.perm,.perm,.perm,.perm,hoL l count,hoN,.uniq,.uniq,.uniq,.uniq,hoO [.glist 7 16 (l.map (cnG 8 9 10)),.val (.int .i64 count)]]
theorem step7N_l (l:List Cn) (count e:Int) (hll:l.length≤3000) (hc : ∀ c∈l,CnLen c) (he:e≠0) (B:Base) (hB:B.h=ofL [.perm,.perm,.perm,.perm,.perm]) :
 qAWs Tryz.prog B ((spineF Tryz.f15).drop 14) (qEnd B (.tup [.agg [.list 1 16 (l.map (cnP 2 3 4)),.val (.int .i64 count)],.val (.bool true)]) [.perm,.perm,.perm,.perm,.perm]) (noF e) (noG l count):=by
 have cE:=eqHost_l ⟨l,count⟩ (by dsimp only;omega) hc
 have he1:(e != e)=false:=by simp
 have he2:(e != 0)=true:=by simpa using he
 dsimp only [hoR] at cE ⊢
 refine qAWs.ofF (fn:=Tryz.f15) rfl (by simp only [spine,List.cons_append,List.nil_append,List.append_assoc];rfl) 14 (by simp only [List.drop_succ_cons,List.drop_zero];rfl) ?_
 refine qAWs.fin mixed (by simp only [chain];rfl) ?_
 ((conv=>whnf);(repeat' ((first|refine gT ?_|((with_reducible refine qif_t ?_ ?_);focus (simp;done))|((with_reducible refine qif_f ?_ ?_);focus (simp;done))|(with_reducible refine qif_i (fun _=>?_) (fun _=>?_))|((with_reducible refine qcp (num17_l _) ?_);refine pT ?_)|(((with_reducible refine qcr (cE) [(0,0),(0,1),(0,2),(0,3),(0,4),(0,7),(0,8),(0,9),(0,10)] [] ?_);refine s_AhHeN ?_)))<;>(conv=>whnf))))
 as_aux_lemma =>
  (refine qcv hB [] [(0,0),(1,1),(2,2),(3,3),(4,4)] [] ?_;repeat' (with_reducible first|exact trivial|refine And.intro ?_ ?_))
  all_goals (try exact dt_AhHeN_ROWS)
theorem armTickNo_l (l:List Cn) (count lk:Int) (a:Act7) (hll:l.length≤3000) (hc : ∀ c∈l,CnLen c) (k:Int) (hk:k=11∨k=12∨k=13) (hno:hostB ⟨l,count⟩=false) (B:Base) (hB:B.h=ofL [.perm,.perm,.perm,.perm,.perm]) (Q:AExit→List AV→List Own→Prop)
 (hq:qAWs Tryz.prog B ((spineF Tryz.f15).drop 14) Q (noF (1)) (noG l count)) :
 qAWs Tryz.prog B ((spineF Tryz.f15).drop 13) Q (stF (hostB ⟨l,count⟩) lk k) (stG l count a):=by
 have cP:=hostTick_no ⟨l,count⟩ hc (by dsimp only;omega) hno
 rw [hno]
 dsimp only [hoR,noHo] at cP
 obtain ⟨sa,hsa⟩ : ∃ r,alR 0 a=r:=⟨_,rfl⟩
 dsimp only [stG]
 rw [hsa]
 refine qAWs.ofF (fn:=Tryz.f15) rfl (by simp only [spine,List.cons_append,List.nil_append,List.append_assoc];rfl) 13 (by simp only [List.drop_succ_cons,List.drop_zero];rfl) ?_
 refine qAWs.cut mixed 1 (by simp only [List.take_succ_cons,List.take_zero];rfl) (by simp only [List.drop_succ_cons,List.drop_zero];rfl) (by simp only [chain];rfl) rfl (X:=Unit) (fun _=>noF 1) (fun _=>noG l count) (fun _=>True) ?_ ?_
 rotate_left
 ·rintro ⟨⟩ -
  exact qAWs.toF (fn:=Tryz.f15) rfl (by simp only [spine,List.cons_append,List.nil_append,List.append_assoc];rfl) 14 (by simp only [List.drop_succ_cons,List.drop_zero]) hq
 ·rcases hk with rfl|rfl|rfl
  all_goals ((conv=>whnf);(repeat' ((first|refine gT ?_|((with_reducible refine qif_t ?_ ?_);focus (simp;done))|((with_reducible refine qif_f ?_ ?_);focus (simp;done))|(with_reducible refine qif_i (fun _=>?_) (fun _=>?_))|(((with_reducible refine qcr (cP) [(0,0),(0,8),(0,9),(0,10),(0,11)] [] ?_);refine s_AhHeN ?_)))<;>(conv=>whnf))))
  all_goals refine ⟨(),trivial,?_⟩
  all_goals as_aux_lemma =>
   (refine qcv hB [(5,5),(7,6),(12,11)] [(0,0),(1,1),(2,2),(3,3),(4,4),(8,7),(9,8),(10,9),(11,10)] [] ?_;repeat' (with_reducible first|exact trivial|refine And.intro ?_ ?_))
   all_goals (try exact dt_AhHeN_ROWS)
theorem armTakeNo_l (l:List Cn) (count lk:Int) (a:Act7) (hll:l.length≤3000) (hc : ∀ c∈l,CnLen c) (ha:a.s.data.length≤30000) (k:Int) (hk:0≤k∧k≤6) (hno:(hostB ⟨l,count⟩ && (within (fit7 ⟨l,count⟩ a).1 4294967295 && sgB (fit7 ⟨l,count⟩ a).2))=false) (B:Base) (hB:B.h=ofL [.perm,.perm,.perm,.perm,.perm]) (Q:AExit→List AV→List Own→Prop)
 (hq:qAWs Tryz.prog B ((spineF Tryz.f15).drop 14) Q (noF (1)) (noG l count)) :
 qAWs Tryz.prog B ((spineF Tryz.f15).drop 13) Q (stF (hostB ⟨l,count⟩) lk k) (stG l count a):=by
 have cF:=fit17_l ⟨l,count⟩ a (by dsimp only;omega) hc ha
 have hfd:=fit7_data ⟨l,count⟩ a
 have cP:=hostTake_no ⟨l,count⟩ (fit7 ⟨l,count⟩ a).1 (fit7 ⟨l,count⟩ a).2 hc (by dsimp only;omega) hno
 obtain ⟨⟨ip,s⟩,hf⟩ : ∃ r,fit7 ⟨l,count⟩ a=r:=⟨_,rfl⟩
 rw [hf] at cF hfd cP hno
 dsimp only at cF hfd cP hno
 have cS:=copySeg_l s (by rw [hfd];omega)
 have cE:=eqSeg_l s s (by rw [hfd];omega)
 rw [decide_eq_true (rfl:s=s)] at cE
 have cW:=refWord_l ip
 have cG:=refSeg_l s
 obtain ⟨b1,hb1⟩ : ∃ b,hostB ⟨l,count⟩=b:=⟨_,rfl⟩
 obtain ⟨b2,hb2⟩ : ∃ b,within ip 4294967295=b:=⟨_,rfl⟩
 obtain ⟨b3,hb3⟩ : ∃ b,sgB s=b:=⟨_,rfl⟩
 rw [hb1,hb2,hb3] at hno
 rw [hb1]
 rw [hb2] at cW
 rw [hb3] at cG
 have pz:=pl_bytes a.s.data
 have pb:=pl_bytes a.b
 have ps:=pl_bytes s.data
 obtain ⟨n1,n2,n3,n4,n5,n6,n7⟩:(k == 7)=false∧(k == 8)=false∧(k == 9)=false∧(k == 10)=false∧(k == 11)=false∧(k == 12)=false∧(k == 13)=false:=by
  simp only [beq_eq_false_iff_ne];omega
 dsimp only [hoR,noHo,sgR,sgG,sgL,alR,alL] at cP cF cS cE cG
 dsimp only [stG,alR,alL]
 clear hf hb1 hb2 hb3
 refine qAWs.ofF (fn:=Tryz.f15) rfl (by simp only [spine,List.cons_append,List.nil_append,List.append_assoc];rfl) 13 (by simp only [List.drop_succ_cons,List.drop_zero];rfl) ?_
 refine qAWs.cut mixed 1 (by simp only [List.take_succ_cons,List.take_zero];rfl) (by simp only [List.drop_succ_cons,List.drop_zero];rfl) (by simp only [chain];rfl) rfl (X:=Unit) (fun _=>noF 1) (fun _=>noG l count) (fun _=>True) ?_ ?_
 rotate_left
 ·rintro ⟨⟩ -
  exact qAWs.toF (fn:=Tryz.f15) rfl (by simp only [spine,List.cons_append,List.nil_append,List.append_assoc];rfl) 14 (by simp only [List.drop_succ_cons,List.drop_zero]) hq
 ·cases b1<;>cases b2<;>cases b3<;>first|(exact absurd hno (by decide))|skip
  all_goals clear hno
  all_goals ((conv=>whnf);(repeat' ((first|refine gT ?_|((with_reducible refine qif_t ?_ ?_);focus (simp;done))|((with_reducible refine qif_f ?_ ?_);focus (simp;done))|(with_reducible refine qif_i (fun _=>?_) (fun _=>?_))|((with_reducible refine qcp (cW) ?_);refine pT ?_)|(((with_reducible refine qcx (cF) [] [(0,0),(0,1),(0,2),(0,3),(0,4)] [] [(1,15)] [(15,.uniq)] (.tup [.val (.int .i64 ip),.agg (sgG 15 s)]) [] [(1,15)] [] ?_);refine s_AhHeNx ?_))|(((with_reducible refine qcr (cG) [(0,0),(0,15)] [] ?_);refine s_AhHeN ?_))|(((with_reducible refine qcx (cS) [] [(0,0),(0,15)] [] [(1,17)] [(17,.uniq)] (.agg (sgG 17 s)) [] [(1,17)] [] ?_);refine s_AhHeNx ?_))|(((with_reducible refine qcr (cP) [(0,0),(0,8),(0,9),(0,10),(0,11),(0,17)] [] ?_);refine s_AhHeN ?_))|(((with_reducible refine qcr (cE) [(0,0),(0,15),(0,17)] [] ?_);refine s_AhHeN ?_)))<;>(conv=>whnf))))
  all_goals refine ⟨(),trivial,?_⟩
  all_goals as_aux_lemma =>
   (refine qcv hB [(5,5),(7,6),(12,11)] [(0,0),(1,1),(2,2),(3,3),(4,4),(8,7),(9,8),(10,9),(11,10)] [] ?_;repeat' (with_reducible first|exact trivial|refine And.intro ?_ ?_))
   all_goals (try exact dt_AhHeN_ROWS)
set_option maxHeartbeats 4000000
theorem StI.sent {c:Cn} {y:Stp} {n:Nat} (ip:Int) (h:StI c n y):(toS ip y.out).length≤n ∧ ∀ p∈toS ip y.out,p.2.data.length≤1000:=by
 unfold toS
 refine ⟨by rw [List.length_map];exact h.cnt,fun p hp=>?_⟩
 obtain ⟨m,hm,rfl⟩:=List.mem_map.1 hp
 have:=(h.segs m hm).len
 dsimp only
 omega
theorem HsLen.mk' {z:Hs} (H:HoI z.h) (ho:z.out.length≤100000 ∧ ∀ p∈z.out,p.2.data.length≤1000) (hd:z.heard.length≤1000 ∧ ∀ x∈z.heard,x.data.length≤2048):HsLen z :=
 ⟨H.len,fun c hc=>(H.ok c hc).1.I.cnLen,ho.1,ho.2,hd.1,hd.2⟩
theorem tickGo_data : ∀ l:List Cn,(∀ c∈l,CnI c) → ∀ p∈(tickGo l).2.1,p.2.data.length≤1000
 | [],_=>by simp [tickGo]
 | c::l,h=>by
   intro p hp
   unfold tickGo at hp
   dsimp only at hp
   rcases List.mem_append.1 hp with hp|hp
   ·exact ((tick_I (h c (by simp))).2.sent c.ip).2 p hp
   ·exact tickGo_data l (fun d hd=>h d (by simp [hd])) p hp
theorem tick_len {h:Ho} (H:HoI h):HsLen h.tick:=by
 have hIs : ∀ d∈h.conns,CnI d:=fun d hd=>(H.ok d hd).1.I
 have h1:=tickGo_outs h.conns hIs
 obtain ⟨h2,h3⟩:=tickGo_heard h.conns
 have h8:=H.len
 refine .mk' (tick_H H) ⟨?_,tickGo_data _ hIs⟩ ⟨?_,fun x hx=>?_⟩
 ·show (tickGo h.conns).2.1.length≤100000
  omega
 ·show (tickGo h.conns).2.2.length≤1000
  omega
 ·rw [h2 x hx];simp
theorem take_len {h:Ho} (H:HoI h) {ip:Int} (hip:0≤ip∧ip≤4294967295) {s:Sg} (hs:sgB s=true):HsLen (h.take ip s):=by
 have HH:=take_H H hip hs
 unfold Ho.take at HH ⊢
 cases hf:h.conns.findIdx? (hisB ip s) with
 | some i =>
   obtain ⟨c,hi,hp,hg⟩:=find_some hf
   rw [hf] at HH
   dsimp only at HH ⊢
   rw [hg] at HH ⊢
   have hI:=(H.ok c (List.mem_of_getElem? hi)).1.I
   have hS:=take_S hI hs
   obtain ⟨s1,s2⟩:=hS.sent ip
   refine .mk' HH ⟨Nat.le_trans s1 (by decide),s2⟩ ?_
   unfold heardL
   exact bif_p (p:=fun r:List Hd=>r.length≤1000 ∧ ∀ x∈r,x.data.length≤2048) (fun _=>⟨by simp,fun x hx=>by rw [List.mem_singleton.1 hx];exact hS.told⟩) (fun _=>⟨by simp,by simp⟩)
 | none =>
   rw [hf] at HH
   dsimp only at HH ⊢
   unfold Ho.fresh at HH ⊢
   have n0 : ∀ r:Hs,r.heard=[]→r.heard.length≤1000 ∧ ∀ x∈r.heard,x.data.length≤2048:=fun r e=>by rw [e];exact ⟨by simp,by simp⟩
   have ho : ∀ r:Hs,HoI r.h→(r.out=[]∨r.out=[(ip,refuseS s)]∨r=h.more ip s)→r.heard=[]→HsLen r:=by
    intro r Hr hh hn
    refine .mk' Hr ?_ (n0 r hn)
    rcases hh with e|e|e
    ·rw [e];exact ⟨by simp,by simp⟩
    ·rw [e];exact ⟨by simp,fun p hp=>by rw [List.mem_singleton.1 hp];dsimp only;rw [(refuse_fl s).2];simp⟩
    ·subst e
     refine ⟨by show (1:Nat)≤100000;decide,fun p hp=>?_⟩
     have:p=_:=List.mem_singleton.1 hp
     rw [this]
     show (0:Nat)≤1000
     decide
   cases hb:flN s.fl 4 with
   | false=>rw [hb,cond_false] at HH;rw [cond_false];exact ho _ HH (.inl rfl) rfl
   | true =>
     rw [hb,cond_true] at HH
     rw [cond_true]
     cases hb2:(!(s.dp == 1883) || (flN s.fl 2 || (!flN s.fl 16 || (decide (8≤h.conns.length) || (decide (4≤synN h.conns) || h.count == 1099511627776))))) with
     | true=>rw [hb2,cond_true] at HH;rw [cond_true];exact ho _ HH (.inr (.inl rfl)) rfl
     | false=>rw [hb2,cond_false] at HH;rw [cond_false];exact ho _ HH (.inr (.inr rfl)) rfl
abbrev stOk (l:List Cn) (count:Int) (a:Act7) (g:Ho):Prop:=ACallL Tryz.prog 15 [.agg [.list 1 16 (l.map (cnP 2 3 4)),.val (.int .i64 count)],.agg (alR 0 a)] [.perm,.perm,.perm,.perm,.perm] (.tup [.agg [.glist 5 16 (g.conns.map (cnP 6 7 8)),.val (.int .i64 g.count)],.val (.bool true)]) [.perm,.perm,.perm,.perm,.perm,.uniq,.uniq,.uniq,.uniq]
abbrev stNot (l:List Cn) (count:Int) (a:Act7):Prop:=ACallL Tryz.prog 15 [.agg [.list 1 16 (l.map (cnP 2 3 4)),.val (.int .i64 count)],.agg (alR 0 a)] [.perm,.perm,.perm,.perm,.perm] (.tup [.agg [.list 1 16 (l.map (cnP 2 3 4)),.val (.int .i64 count)],.val (.bool true)]) [.perm,.perm,.perm,.perm,.perm]
def stAny (l:List Cn) (count:Int) (a:Act7):Prop:=(∃ g:Ho,HoI g∧stOk l count a g)∨stNot l count a
theorem stNot_of {l:List Cn} {count:Int} {a:Act7} {e:Int} (hll:l.length≤3000) (hc : ∀ c∈l,CnLen c) (he:e≠0)
 (H : ∀ B:Base,B.h=ofL [.perm,.perm,.perm,.perm,.perm] → ∀ Q,qAWs Tryz.prog B ((spineF Tryz.f15).drop 14) Q (noF e) (noG l count)→qAWs Tryz.prog B ((spineF Tryz.f15).drop 13) Q (stF (hostB ⟨l,count⟩) (linkOf ⟨l,count⟩ a) (bring a.dw 14)) (stG l count a)):stNot l count a :=
 step7H_l l count a _ _ hll hc fun B hB=>H B hB _ (step7N_l l count e hll hc he B hB)
theorem stOk_of {l:List Cn} {count:Int} {a:Act7} {z:Hs} (hll:l.length≤3000) (hc : ∀ c∈l,CnLen c) (hL:HsLen z)
 (H : ∀ B:Base,B.h=ofL [.perm,.perm,.perm,.perm,.perm] → ∀ Q,qAWs Tryz.prog B ((spineF Tryz.f15).drop 14) Q (okF z.out z.heard) (okG l count z.h.conns z.h.count z.out z.heard)→qAWs Tryz.prog B ((spineF Tryz.f15).drop 13) Q (stF (hostB ⟨l,count⟩) (linkOf ⟨l,count⟩ a) (bring a.dw 14)) (stG l count a)):stOk l count a z.h :=
 step7H_l l count a _ _ hll hc fun B hB=>H B hB _ (step7T_l l count z hll hc hL B hB)
set_option maxHeartbeats 16000000
theorem s_AhHeGx {p q:Prop} (k:q) (h:Hold q→p:=by first|(intro hQ;refine And.intro ?_ (And.intro ?_ (And.intro ?_ (And.intro ?_ ?_)));(focus kernel_rfl);(focus kernel_rfl);(focus kernel_rfl);(focus kernel_rfl);(conv=>whnf);(repeat (refine And.intro ?_ ?_;(focus (first|exact sideT|(first|exact cns_bor rfl rfl rfl _ rfl|exact hsRow_r rfl rfl rfl (cns_pp rfl rfl rfl _) (sns_rr rfl _) (hds_rr rfl _))));(conv=>whnf)));(fail_if_success (with_reducible first|refine And.intro (eqv_i ?_) ?_|refine And.intro (ren_i ?_) ?_));exact hQ.out)|fail):p:=h ⟨k⟩
theorem dt_AhHeG_ROWS {p:Prop} (h:p:=by first|((first|rfl|exact Ren.vgnil _ _|exact hs0_vg rfl (cns_gp rfl rfl rfl _)|exact RowsRen.one (.cons (Ren.glR rfl (cns_gp rfl rfl rfl _)) (.cons (.val _) .nil))|exact RowsRen.one (.cons (Ren.glR rfl (cns_gg rfl rfl rfl _)) (.cons (.val _) .nil))|exact hsRow_r rfl rfl rfl (cns_pp rfl rfl rfl _) (sns_rr rfl _) (hds_rr rfl _)|exact RowsRen.one (.cons (Ren.glR rfl (cns_pp rfl rfl rfl _)) (.cons (.val _) .nil))|exact RowsRen.one (.cons (Ren.lR rfl (cns_pp rfl rfl rfl _)) (.cons (.val _) .nil))|exact sns_gg rfl _|(exact rowsT));done)|fail):p:=h
theorem armTick_l (l:List Cn) (count lk:Int) (a:Act7) (z:Hs) (k:Int) (hk:k=11∨k=12∨k=13) (H:HoI ⟨l,count⟩) (hz:Ho.tick ⟨l,count⟩=z) (B:Base) (hB:B.h=ofL [.perm,.perm,.perm,.perm,.perm]) (Q:AExit→List AV→List Own→Prop)
 (hq:qAWs Tryz.prog B ((spineF Tryz.f15).drop 14) Q (okF z.out z.heard) (okG l count z.h.conns z.h.count z.out z.heard)) :
 qAWs Tryz.prog B ((spineF Tryz.f15).drop 13) Q (stF (hostB ⟨l,count⟩) lk k) (stG l count a):=by
 rw [(hostB_iff _).2 H]
 have cP:=hostTick_l l count H
 have cR:=rHostTick_l l count H
 rw [hz] at cP cR
 obtain ⟨⟨zl,zc⟩,zo,zd⟩:=z
 dsimp only at hq
 dsimp only [hoR,hsA,hsH,rhH,hsRow] at cP cR
 obtain ⟨sa,hsa⟩ : ∃ r,alR 0 a=r:=⟨_,rfl⟩
 dsimp only [stG]
 rw [hsa]
 clear hz
 refine qAWs.ofF (fn:=Tryz.f15) rfl (by simp only [spine,List.cons_append,List.nil_append,List.append_assoc];rfl) 13 (by simp only [List.drop_succ_cons,List.drop_zero];rfl) ?_
 refine qAWs.cut mixed 1 (by simp only [List.take_succ_cons,List.take_zero];rfl) (by simp only [List.drop_succ_cons,List.drop_zero];rfl) (by simp only [chain];rfl) rfl (X:=Unit) (fun _=>okF zo zd) (fun _=>okG l count zl zc zo zd) (fun _=>True) ?_ ?_
 ·rcases hk with rfl|rfl|rfl
  all_goals ((conv=>whnf);(repeat' ((first|refine gT ?_|((with_reducible refine qif_t ?_ ?_);focus (simp;done))|((with_reducible refine qif_f ?_ ?_);focus (simp;done))|(with_reducible refine qif_i (fun _=>?_) (fun _=>?_))|(((with_reducible refine qcx (cR) [] [(0,0),(0,1),(0,2),(0,3),(0,4)] [] [(1,15),(2,16),(3,17),(4,18),(5,19),(6,20),(7,21),(8,22),(9,23)] [(15,hsO (hsRow 16 17 18 19 20 21 22 23 ⟨⟨zl,zc⟩,zo,zd⟩)),(16,.uniq),(17,.uniq),(18,.uniq),(19,.uniq),(20,.uniq),(21,.uniq),(22,.uniq),(23,.uniq)] (.ptr 15 0 0) [(1,15)] [(2,16),(3,17),(4,18),(5,19),(6,20),(7,21),(8,22),(9,23)] [] ?_);refine s_AhHeGx ?_))|(((with_reducible refine qcx (cP) [] [(0,0),(0,8),(0,9),(0,10),(0,11)] [] [(1,24),(2,25),(3,26),(4,27),(5,28),(6,29),(7,30),(8,31)] [(24,.uniq),(25,.uniq),(26,.uniq),(27,.uniq),(28,.uniq),(29,.uniq),(30,.uniq),(31,.uniq)] (.tup [.agg [.glist 24 16 (zl.map (cnG 25 26 27)),.val (.int .i64 zc)],.glist 28 8 (zo.map (snG 29)),.glist 30 3 (zd.map (hdG 31)),.val (.int .i64 0)]) [] [(1,24),(2,25),(3,26),(4,27),(5,28),(6,29),(7,30),(8,31)] [] ?_);refine s_AhHeGx ?_)))<;>(conv=>whnf))))
  all_goals refine ⟨(),trivial,?_⟩
  all_goals as_aux_lemma =>
   (refine qcv hB [(5,5),(7,6),(12,11),(15,12),(14,21)] [(0,0),(1,1),(2,2),(3,3),(4,4),(8,7),(9,8),(10,9),(11,10),(16,13),(17,14),(18,15),(19,16),(20,17),(21,18),(22,19),(23,20),(24,22),(25,23),(26,24),(27,25),(28,26),(29,27),(30,28),(31,29)] [] ?_;repeat' (with_reducible first|exact trivial|refine And.intro ?_ ?_))
   all_goals (try exact dt_AhHeG_ROWS)
 ·rintro ⟨⟩ -
  exact qAWs.toF (fn:=Tryz.f15) rfl (by simp only [spine,List.cons_append,List.nil_append,List.append_assoc];rfl) 14 (by simp only [List.drop_succ_cons,List.drop_zero]) hq
theorem s_AhHeT {p q:Prop} (k:q) (h:Hold q→p:=by first|(intro hQ;refine And.intro ?_ ?_;(focus rfl);(conv=>whnf);(repeat (refine And.intro ?_ ?_;(focus (first|exact sideT|(first|exact cns_bor rfl rfl rfl _ rfl|exact hsRow_r rfl rfl rfl (cns_pp rfl rfl rfl _) (sns_rr rfl _) (hds_rr rfl _))));(conv=>whnf)));(fail_if_success (with_reducible first|refine And.intro (eqv_i ?_) ?_|refine And.intro (ren_i ?_) ?_));exact hQ.out)|fail):p:=h ⟨k⟩
theorem s_AhHeTx {p q:Prop} (k:q) (h:Hold q→p:=by first|(intro hQ;refine And.intro ?_ (And.intro ?_ (And.intro ?_ (And.intro ?_ ?_)));(focus kernel_rfl);(focus kernel_rfl);(focus kernel_rfl);(focus kernel_rfl);(conv=>whnf);(repeat (refine And.intro ?_ ?_;(focus (first|exact sideT|(first|exact cns_bor rfl rfl rfl _ rfl|exact hsRow_r rfl rfl rfl (cns_pp rfl rfl rfl _) (sns_rr rfl _) (hds_rr rfl _))));(conv=>whnf)));(fail_if_success (with_reducible first|refine And.intro (eqv_i ?_) ?_|refine And.intro (ren_i ?_) ?_));exact hQ.out)|fail):p:=h ⟨k⟩
theorem dt_AhHeT_ROWS {p:Prop} (h:p:=by first|((first|rfl|exact Ren.vgnil _ _|exact hs0_vg rfl (cns_gp rfl rfl rfl _)|exact RowsRen.one (.cons (Ren.glR rfl (cns_gp rfl rfl rfl _)) (.cons (.val _) .nil))|exact RowsRen.one (.cons (Ren.glR rfl (cns_gg rfl rfl rfl _)) (.cons (.val _) .nil))|exact hsRow_r rfl rfl rfl (cns_pp rfl rfl rfl _) (sns_rr rfl _) (hds_rr rfl _)|exact RowsRen.one (.cons (Ren.glR rfl (cns_pp rfl rfl rfl _)) (.cons (.val _) .nil))|exact RowsRen.one (.cons (Ren.lR rfl (cns_pp rfl rfl rfl _)) (.cons (.val _) .nil))|exact sns_gg rfl _|(exact rowsT));done)|fail):p:=h
theorem rHostTake_l (l:List Cn) (count ip:Int) (s:Sg) (H:HoI ⟨l,count⟩) (hip:0≤ip∧ip≤4294967295) (hs:sgB s=true) :
 ACallL Tryz.prog 35 [.agg (hoR ⟨l,count⟩),.val (.int .i64 ip),.agg (sgR 0 s)] [.perm] (.ptr 1 0 0) (rhH (Ho.take ⟨l,count⟩ ip s)):=by
 unfold Ho.take
 dsimp only
 cases hf:l.findIdx? (hisB ip s) with
 | some i =>
   obtain ⟨c,hi,hp,hg⟩:=find_some hf
   dsimp only
   rw [hg]
   exact rHostTake_at l count ip s H hs i c hf hi
 | none=>exact rHostTake_new l count ip s H hip hs hf
theorem hostTakeA_l (l:List Cn) (count ip:Int) (s:Sg) (H:HoI ⟨l,count⟩) (hip:0≤ip∧ip≤4294967295) (hs:sgB s=true) :
 ACallL Tryz.prog 37 [.agg (hoR ⟨l,count⟩),.val (.int .i64 ip),.agg (sgR 0 s)] [.perm] (hsA (Ho.take ⟨l,count⟩ ip s)) hsH:=by
 unfold Ho.take
 dsimp only
 cases hf:l.findIdx? (hisB ip s) with
 | some i =>
   obtain ⟨c,hi,hp,hg⟩:=find_some hf
   dsimp only
   rw [hg]
   exact hostTake_at l count ip s H hip hs i c hf hi hp
 | none=>exact hostTake_new l count ip s H hip hs hf
theorem armTake_l (l:List Cn) (count lk:Int) (a:Act7) (z:Hs) (hll:l.length≤3000) (ha:a.s.data.length≤30000) (k:Int) (hk:0≤k∧k≤6) (H:HoI ⟨l,count⟩) (hip:within (fit7 ⟨l,count⟩ a).1 4294967295=true) (hs:sgB (fit7 ⟨l,count⟩ a).2=true)
 (hz:Ho.take ⟨l,count⟩ (fit7 ⟨l,count⟩ a).1 (fit7 ⟨l,count⟩ a).2=z) (B:Base) (hB:B.h=ofL [.perm,.perm,.perm,.perm,.perm]) (Q:AExit→List AV→List Own→Prop)
 (hq:qAWs Tryz.prog B ((spineF Tryz.f15).drop 14) Q (okF z.out z.heard) (okG l count z.h.conns z.h.count z.out z.heard)) :
 qAWs Tryz.prog B ((spineF Tryz.f15).drop 13) Q (stF (hostB ⟨l,count⟩) lk k) (stG l count a):=by
 rw [(hostB_iff _).2 H]
 have hcl : ∀ d∈l,CnLen d:=fun d hd=>(H.ok d hd).1.I.cnLen
 have cF:=fit17_l ⟨l,count⟩ a (by dsimp only;omega) hcl ha
 have hfd:=fit7_data ⟨l,count⟩ a
 obtain ⟨⟨ip,s⟩,hf⟩ : ∃ r,fit7 ⟨l,count⟩ a=r:=⟨_,rfl⟩
 rw [hf] at cF hfd hip hs hz
 dsimp only at cF hfd hip hs hz
 have hip2:0≤ip∧ip≤4294967295:=by simpa [within] using hip
 have cP:=hostTakeA_l l count ip s H hip2 hs
 have cR:=rHostTake_l l count ip s H hip2 hs
 have cS:=copySeg_l s (by rw [hfd];omega)
 have cE:=eqSeg_l s s (by rw [hfd];omega)
 rw [decide_eq_true (rfl:s=s)] at cE
 have cW:=refWord_l ip
 rw [hip] at cW
 have cG:=refSeg_l s
 rw [hs] at cG
 rw [hz] at cP cR
 have pz:=pl_bytes a.s.data
 have pb:=pl_bytes a.b
 have ps:=pl_bytes s.data
 obtain ⟨⟨zl,zc⟩,zo,zd⟩:=z
 dsimp only at hq
 obtain ⟨n1,n2,n3,n4,n5,n6,n7⟩:(k == 7)=false∧(k == 8)=false∧(k == 9)=false∧(k == 10)=false∧(k == 11)=false∧(k == 12)=false∧(k == 13)=false:=by
  simp only [beq_eq_false_iff_ne];omega
 dsimp only [hoR,hsA,hsH,rhH,hsRow,sgR,sgG,sgL,alR,alL] at cP cR cF cS cE cG
 dsimp only [stG,alR,alL]
 clear hz hf
 refine qAWs.ofF (fn:=Tryz.f15) rfl (by simp only [spine,List.cons_append,List.nil_append,List.append_assoc];rfl) 13 (by simp only [List.drop_succ_cons,List.drop_zero];rfl) ?_
 refine qAWs.cut mixed 1 (by simp only [List.take_succ_cons,List.take_zero];rfl) (by simp only [List.drop_succ_cons,List.drop_zero];rfl) (by simp only [chain];rfl) rfl (X:=Unit) (fun _=>okF zo zd) (fun _=>okG l count zl zc zo zd) (fun _=>True) ?_ ?_
 ·((conv=>whnf);(repeat' ((first|refine gT ?_|((with_reducible refine qif_t ?_ ?_);focus (simp;done))|((with_reducible refine qif_f ?_ ?_);focus (simp;done))|(with_reducible refine qif_i (fun _=>?_) (fun _=>?_))|((with_reducible refine qcp (cW) ?_);refine pT ?_)|(((with_reducible refine qcx (cF) [] [(0,0),(0,1),(0,2),(0,3),(0,4)] [] [(1,15)] [(15,.uniq)] (.tup [.val (.int .i64 ip),.agg (sgG 15 s)]) [] [(1,15)] [] ?_);refine s_AhHeTx ?_))|(((with_reducible refine qcr (cG) [(0,0),(0,15)] [] ?_);refine s_AhHeT ?_))|(((with_reducible refine qcx (cR) [] [(0,0),(0,1),(0,2),(0,3),(0,4),(0,15)] [] [(1,17),(2,18),(3,19),(4,20),(5,21),(6,22),(7,23),(8,24),(9,25)] [(17,hsO (hsRow 18 19 20 21 22 23 24 25 ⟨⟨zl,zc⟩,zo,zd⟩)),(18,.uniq),(19,.uniq),(20,.uniq),(21,.uniq),(22,.uniq),(23,.uniq),(24,.uniq),(25,.uniq)] (.ptr 17 0 0) [(1,17)] [(2,18),(3,19),(4,20),(5,21),(6,22),(7,23),(8,24),(9,25)] [] ?_);refine s_AhHeTx ?_))|(((with_reducible refine qcx (cS) [] [(0,0),(0,15)] [] [(1,26)] [(26,.uniq)] (.agg (sgG 26 s)) [] [(1,26)] [] ?_);refine s_AhHeTx ?_))|(((with_reducible refine qcx (cP) [] [(0,0),(0,8),(0,9),(0,10),(0,11),(0,26)] [] [(1,28),(2,29),(3,30),(4,31),(5,32),(6,33),(7,34),(8,35)] [(28,.uniq),(29,.uniq),(30,.uniq),(31,.uniq),(32,.uniq),(33,.uniq),(34,.uniq),(35,.uniq)] (.tup [.agg [.glist 28 16 (zl.map (cnG 29 30 31)),.val (.int .i64 zc)],.glist 32 8 (zo.map (snG 33)),.glist 34 3 (zd.map (hdG 35)),.val (.int .i64 0)]) [] [(1,28),(2,29),(3,30),(4,31),(5,32),(6,33),(7,34),(8,35)] [] ?_);refine s_AhHeTx ?_))|(((with_reducible refine qcr (cE) [(0,0),(0,15),(0,26)] [] ?_);refine s_AhHeT ?_)))<;>(conv=>whnf))))
  refine ⟨(),trivial,?_⟩
  as_aux_lemma =>
   (refine qcv hB [(5,5),(7,6),(12,11),(17,12),(14,21)] [(0,0),(1,1),(2,2),(3,3),(4,4),(8,7),(9,8),(10,9),(11,10),(18,13),(19,14),(20,15),(21,16),(22,17),(23,18),(24,19),(25,20),(28,22),(29,23),(30,24),(31,25),(32,26),(33,27),(34,28),(35,29)] [] ?_;repeat' (with_reducible first|exact trivial|refine And.intro ?_ ?_))
   all_goals (try exact dt_AhHeT_ROWS)
 ·rintro ⟨⟩ -
  exact qAWs.toF (fn:=Tryz.f15) rfl (by simp only [spine,List.cons_append,List.nil_append,List.append_assoc];rfl) 14 (by simp only [List.drop_succ_cons,List.drop_zero]) hq
set_option maxHeartbeats 4000000
section
variable {l:List Cn} {count:Int} {a:Act7} (hll:l.length≤3000) (hc : ∀ c∈l,CnLen c)
include hll hc
theorem tick_any (hk:bring a.dw 14=11∨bring a.dw 14=12∨bring a.dw 14=13):stAny l count a:=by
 cases hb:hostB ⟨l,count⟩ with
 | true =>
   have H:=(hostB_iff _).1 hb
   exact .inl ⟨_,tick_H H,stOk_of hll hc (tick_len H) fun B hB Q hq=>armTick_l l count _ a _ _ hk H rfl B hB Q hq⟩
 | false=>exact .inr (stNot_of hll hc (by decide:(1:Int)≠0) fun B hB Q hq=>armTickNo_l l count _ a hll hc _ hk hb B hB Q hq)
theorem take_any (ha:a.s.data.length≤30000) (hk:0≤bring a.dw 14∧bring a.dw 14≤6):stAny l count a:=by
 cases hb:(hostB ⟨l,count⟩ && (within (fit7 ⟨l,count⟩ a).1 4294967295 && sgB (fit7 ⟨l,count⟩ a).2)) with
 | true =>
   rw [Bool.and_eq_true,Bool.and_eq_true] at hb
   obtain ⟨h1,h2,h3⟩:=hb
   have H:=(hostB_iff _).1 h1
   have hip:0≤(fit7 ⟨l,count⟩ a).1∧(fit7 ⟨l,count⟩ a).1≤4294967295:=by simpa [within] using h2
   exact .inl ⟨_,take_H H hip h3,stOk_of hll hc (take_len H hip h3) fun B hB Q hq=>armTake_l l count _ a _ hll ha _ hk H h2 h3 rfl B hB Q hq⟩
 | false=>exact .inr (stNot_of hll hc (by decide:(1:Int)≠0) fun B hB Q hq=>armTakeNo_l l count _ a hll hc ha _ hk hb B hB Q hq)
end
theorem only7_l (h:Ho) (l:List Act7) (dw:Int) (hh:HoBig h) (hl:ActLen7 l) (hS : ∀ a:Act7,h.conns.length≤3000→(∀ c∈h.conns,CnLen c)→a.s.data.length≤30000→a.b.length≤30000→a.dw=dw→stAny h.conns h.count a) :
 ACallL Tryz.prog 9 [.agg (shR h l),.val (.int .i64 dw)] [.perm] (.val (.bool true)) [.perm]:=by
 have px:=pl_cns h.conns
 have pz:=pl_act7 l
 have hlen:(l.map (alR 0)).length=l.length:=by simp
 have cH:=heavy17_l h l hh hl
 obtain ⟨b,hb⟩ : ∃ b,hv17 h l=b:=⟨_,rfl⟩
 rw [hb] at cH
 dsimp only [shR] at cH ⊢
 cases b with
 | true =>
   refine ACallL.of_ev mixed Tryz.func9 rfl (fun a w=>Tryz.call9 a w) (congrArg Array.toList Tryz.results9) Tryz.ntmps9 fun B hB=>?_
   ((conv=>whnf);(repeat' ((first|refine gT ?_|((with_reducible refine qif_t ?_ ?_);focus (simp;done))|((with_reducible refine qif_f ?_ ?_);focus (simp;done))|(with_reducible refine qif_i (fun _=>?_) (fun _=>?_))|((with_reducible refine qcp (cH) ?_);refine pT ?_))<;>(conv=>whnf))))
   all_goals (refine qcv hB [] [(0,0)] [] ?_;repeat' (with_reducible first|exact trivial|refine And.intro ?_ ?_))
 | false =>
   obtain ⟨h1,h2,h3,h4⟩:=hv17_no hb
   refine ACallL.of_ev mixed Tryz.func9 rfl (fun a w=>Tryz.call9 a w) (congrArg Array.toList Tryz.results9) Tryz.ntmps9 fun B hB=>?_
   ((conv=>whnf);(repeat' ((first|refine gT ?_|((with_reducible refine qif_t ?_ ?_);focus (simp;done))|((with_reducible refine qif_f ?_ ?_);focus (simp;done))|(with_reducible refine qif_i (fun _=>?_) (fun _=>?_))|((with_reducible refine qcp (cH) ?_);refine pT ?_))<;>(conv=>whnf))))
   refine qAW.loopE mixed (X:=Nat) (fun k=>slotsOf 39 [(1,.val (.int .i64 dw)),(2,.ptr 1 0 0),(5,.val (.int .i64 k))]) (fun k=>[.perm,.live ⟨3,27,[shR h l]⟩]) (fun k=>k≤l.length) (fun k=>l.length - k) 0 (Nat.zero_le _) ?_ ?_
   ·(refine qcv hB [(1,1)] [(0,0)] [] ?_;repeat' (with_reducible first|exact trivial|refine And.intro ?_ ?_))
    all_goals first|rfl|skip
   ·rintro E k hk hE
    have w:=IntWalk.i64_in (k + 1) (by omega)
    dsimp only [shR]
    by_cases hlt:k < l.length
    ·by_cases h14:(k:Int) < 14
     ·obtain ⟨a,hxk⟩ : ∃ p,l[k]?=some p:=⟨_,List.getElem?_eq_getElem hlt⟩
      have hx:=h4 _ (List.mem_of_getElem? hxk)
      have hrow:(l.map (alR 0))[(k:Int).toNat]?=some (alR 0 a):=by simp [hxk]
      obtain ⟨a', ha'⟩ : ∃ r:Act7, { a with dw:=dw } = r:=⟨_,rfl⟩
      have e1:a'.s=a.s:=by rw [← ha']
      have e2:a'.b=a.b:=by rw [← ha']
      have pza:=pl_bytes a.s.data
      have pzb:=pl_bytes a.b
      rcases hS a' h1 (fun c hc=>(h2 c hc).1) (by rw [e1];exact hx.1) (by rw [e2];exact hx.2) (by rw [← ha']) with ⟨g, -, cS⟩|cS
      ·unfold stOk at cS
       subst ha'
       dsimp only [alR,alL] at cS hrow
       subst hE
       ((conv=>whnf);(repeat' ((first|refine gT ?_|((with_reducible refine qif_t ?_ ?_);focus (simp [hlt,h14];done))|((with_reducible refine qif_f ?_ ?_);focus (simp [hlt,h14];done))|(with_reducible refine qif_i (fun _=>?_) (fun _=>?_))|(refine qCase_i (idxL rfl rfl rfl rfl rfl rfl (by omega) hrow) ?_)|(((with_reducible refine qco (cS) [] [(0,0),(1,0),(2,0),(3,0),(4,0)] [] [(5,3),(6,4),(7,5),(8,6)] [(3,.uniq),(4,.uniq),(5,.uniq),(6,.uniq)] (.tup [.agg [.glist 3 16 (g.conns.map (cnP 4 5 6)),.val (.int .i64 g.count)],.val (.bool true)]) ?_);refine sT ?_)))<;>(conv=>whnf))))
       refine ⟨k + 1,by omega,by omega,?_⟩
       (refine qcv hB [(1,1)] [(0,0)] [] ?_;repeat' (with_reducible first|exact trivial|refine And.intro ?_ ?_))
       all_goals first|rfl|(simp [w];done)|skip
      ·unfold stNot at cS
       subst ha'
       dsimp only [alR,alL] at cS hrow
       subst hE
       ((conv=>whnf);(repeat' ((first|refine gT ?_|((with_reducible refine qif_t ?_ ?_);focus (simp [hlt,h14];done))|((with_reducible refine qif_f ?_ ?_);focus (simp [hlt,h14];done))|(with_reducible refine qif_i (fun _=>?_) (fun _=>?_))|(refine qCase_i (idxL rfl rfl rfl rfl rfl rfl (by omega) hrow) ?_)|(((with_reducible refine qco (cS) [] [(0,0),(1,0),(2,0),(3,0),(4,0)] [] [] [] (.tup [.agg [.list 0 16 (h.conns.map (cnR 0)),.val (.int .i64 h.count)],.val (.bool true)]) ?_);refine sT ?_)))<;>(conv=>whnf))))
       refine ⟨k + 1,by omega,by omega,?_⟩
       (refine qcv hB [(1,1)] [(0,0)] [] ?_;repeat' (with_reducible first|exact trivial|refine And.intro ?_ ?_))
       all_goals first|rfl|(simp [w];done)|skip
     ·subst hE
      ((conv=>whnf);(repeat' ((first|refine gT ?_|((with_reducible refine qif_t ?_ ?_);focus (simp [hlt,h14];done))|((with_reducible refine qif_f ?_ ?_);focus (simp [hlt,h14];done))|(with_reducible refine qif_i (fun _=>?_) (fun _=>?_))|((with_reducible refine qcp (wakes17_l) ?_);refine pT ?_))<;>(conv=>whnf))))
      all_goals (refine qcv hB [] [(0,0)] [] ?_;repeat' (with_reducible first|exact trivial|refine And.intro ?_ ?_))
    ·subst hE
     ((conv=>whnf);(repeat' ((first|refine gT ?_|((with_reducible refine qif_t ?_ ?_);focus (simp [hlt];done))|((with_reducible refine qif_f ?_ ?_);focus (simp [hlt];done))|(with_reducible refine qif_i (fun _=>?_) (fun _=>?_))|((with_reducible refine qcp (wakes17_l) ?_);refine pT ?_))<;>(conv=>whnf))))
     all_goals (refine qcv hB [] [(0,0)] [] ?_;repeat' (with_reducible first|exact trivial|refine And.intro ?_ ?_))
theorem takes7_law (h:Ho) (l:List Act7) (hh:HoBig h) (hl:ActLen7 l):ACallL Tryz.prog 3 [.agg (shR h l)] [.perm] (.val (.bool true)) [.perm]:=by
 have px:=pl_cns h.conns
 have pz:=pl_act7 l
 have cO:=only7_l h l 0 hh hl fun a h1 h2 ha hb e=>take_any h1 h2 ha (by rw [e];decide)
 dsimp only [shR] at cO ⊢
 refine ACallL.of_ev mixed Tryz.func3 rfl (fun a w=>Tryz.call3 a w) (congrArg Array.toList Tryz.results3) Tryz.ntmps3 fun B hB=>?_
 ((conv=>whnf);(repeat' ((first|refine gT ?_|((with_reducible refine qif_t ?_ ?_);focus (simp;done))|((with_reducible refine qif_f ?_ ?_);focus (simp;done))|(with_reducible refine qif_i (fun _=>?_) (fun _=>?_))|((with_reducible refine qcp (cO) ?_);refine pT ?_))<;>(conv=>whnf))))
 all_goals (refine qcv hB [] [(0,0)] [] ?_;repeat' (with_reducible first|exact trivial|refine And.intro ?_ ?_))
theorem ticks7_law (h:Ho) (l:List Act7) (hh:HoBig h) (hl:ActLen7 l):ACallL Tryz.prog 7 [.agg (shR h l)] [.perm] (.val (.bool true)) [.perm]:=by
 have px:=pl_cns h.conns
 have pz:=pl_act7 l
 have cO:=only7_l h l 11 hh hl fun a h1 h2 ha hb e=>tick_any h1 h2 (by rw [e];decide)
 dsimp only [shR] at cO ⊢
 refine ACallL.of_ev mixed Tryz.func7 rfl (fun a w=>Tryz.call7 a w) (congrArg Array.toList Tryz.results7) Tryz.ntmps7 fun B hB=>?_
 ((conv=>whnf);(repeat' ((first|refine gT ?_|((with_reducible refine qif_t ?_ ?_);focus (simp;done))|((with_reducible refine qif_f ?_ ?_);focus (simp;done))|(with_reducible refine qif_i (fun _=>?_) (fun _=>?_))|((with_reducible refine qcp (cO) ?_);refine pT ?_))<;>(conv=>whnf))))
 all_goals (refine qcv hB [] [(0,0)] [] ?_;repeat' (with_reducible first|exact trivial|refine And.intro ?_ ?_))
end Go.Proofs.YtceohcbokbalhaaGreat
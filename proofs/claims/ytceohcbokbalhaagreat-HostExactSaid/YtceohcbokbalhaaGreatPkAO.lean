/- Contracts and plain laws, one behind the other: AhHeD, AhHeN, HostK, AhHeL, AhHeA, AhHeB, AhHeC, AhHeG, AhHeT, AhHeS, AhHeX. Conditions are said at each. -/
import Derived.Test.YtceohcbokbalhaaGreatPkAK
import Derived.Test.YtceohcbokbalhaaGreatPkAM
import Derived.Test.YtceohcbokbalhaaGreatPkAN
import Derived.Test.YtceohcbokbalhaaGreatPkAH
namespace Go.Proofs.YtceohcbokbalhaaGreat
open Go.RowKit
set_option linter.unusedVariables false
set_option linter.unusedSimpArgs false
set_option maxRecDepth 100000
set_option maxHeartbeats 16000000
theorem cJ {p q:Prop} (k:q) (h:Hold q→p:=by first|(intro hQ;refine And.intro ?_ ?_;(focus rfl);(conv=>whnf);(repeat (refine And.intro ?_ ?_;(focus (first|exact bA|(first|exact bl rfl rfl rfl _ rfl|exact aw rfl rfl rfl (aC rfl rfl rfl _) (ay rfl _) (aG rfl _))));(conv=>whnf)));(fail_if_success (with_reducible first|refine And.intro (bz ?_) ?_|refine And.intro (bD ?_) ?_));exact hQ.out)|fail):p:=h ⟨k⟩
def fi (h:Ho) (a:Act7):Int:=bif a.fit && decide (0 < (h.conns.length:Int)) then (h.conns.getD (bc a.link h.conns.length).toNat cnZ).link else a.link
structure HsLen (z:Hs):Prop where
 conns:z.h.conns.length≤8
 ok : ∀ c∈z.h.conns,aA c
 out:z.out.length≤100000
 data : ∀ p∈z.out,p.2.data.length≤1000
 heard:z.heard.length≤1000
 told : ∀ x∈z.heard,x.data.length≤2048
section
variable {L I F:Prs} {h:Hp}
theorem Ren.lR {b b' sz:Nat} {rows rows' : List (List AV)} (hb:I.has b b' = true) (hr:RowsRen (qOf L I F) h rows rows'):Ren (qOf L I F) h (.list b sz rows) (.list b' sz rows') :=
 .list _ _ _ _ _ ((Prs.has_iff I _ _).1 hb) hr.1 hr.2.1 hr.2.2
end
abbrev hoO (row:List AV):Own := .live ⟨2,24,[row]⟩
def aZ (fn:Func):List Code:=match fn.body with|some c=>spine c|none=>[]
theorem qAWs.ofF {P:Program} {B:Base} {fn:Func} {c:Code} (hb:fn.body=some c) {L L2:List Code} (hL:spine c=L) (k:Nat) (e2:L.drop k=L2) {Q:AExit→List AV→List Own→Prop} {sl:List AV} {h:List Own} (H:qAWs P B L2 Q sl h):qAWs P B ((aZ fn).drop k) Q sl h:=by
 subst hL e2;unfold aZ;rw [hb];exact H
theorem qAWs.toF {P:Program} {B:Base} {fn:Func} {c:Code} (hb:fn.body=some c) {L L2:List Code} (hL:spine c=L) (k:Nat) (e2:L.drop k=L2) {Q:AExit→List AV→List Own→Prop} {sl:List AV} {h:List Own} (H:qAWs P B ((aZ fn).drop k) Q sl h):qAWs P B L2 Q sl h:=by
 subst hL e2;unfold aZ at H;rw [hb] at H;exact H
abbrev stF (may:Bool) (lk k:Int):List AV:=ap 224 [(2,.ptr 5 0 0),(3,.ptr 6 0 0),(4,.ptr 7 0 0),(5,.val (.bool false)),(6,.ptr 12 0 0),(7,.val (.bool may)),(8,.ptr 13 0 0),(9,.val (.int .i64 1)),(10,.ptr 14 0 0),(11,.val (.slice none 0 0)),(12,.val (.slice none 0 0)),(13,.val (.int .i64 0)),(14,.val (.int .i64 lk)),(49,.val (.int .i64 k))]
abbrev hoL (l:List Cn) (count:Int):Own:=hoO [.list 1 16 (l.map (cnP 2 3 4)),.val (.int .i64 count)]
abbrev hoN:Own:=hoO [.val (.slice none 0 0),.val (.int .i64 0)]
abbrev stG (l:List Cn) (count:Int) (a:Act7):List Own:=[.perm,.perm,.perm,.perm,.perm,hoL l count,.live ⟨13,41,[alR 0 a]⟩,hoN,.uniq,.uniq,.uniq,.uniq,hoO [.glist 8 16 (l.map (cnG 9 10 11)),.val (.int .i64 count)],hsO [.val (.slice none 0 0),.val (.int .i64 0),.val (.slice none 0 0),.val (.slice none 0 0)],hoN]
abbrev okF (zo:List (Int × Sg)) (zd:List Hd):List AV:=ap 224 [(2,.ptr 5 0 0),(4,.ptr 6 0 0),(5,.val (.bool false)),(6,.ptr 11 0 0),(8,.ptr 12 0 0),(9,.val (.int .i64 0)),(10,.ptr 21 0 0),(11,.glist 26 8 (zo.map (snG 27))),(12,.glist 28 3 (zd.map (hdG 29))),(13,.val (.int .i64 0))]
abbrev okG (l:List Cn) (count:Int) (zl:List Cn) (zc:Int) (zo:List (Int × Sg)) (zd:List Hd):List Own:=[.perm,.perm,.perm,.perm,.perm,hoL l count,hoN,.uniq,.uniq,.uniq,.uniq,hoO [.glist 7 16 (l.map (cnG 8 9 10)),.val (.int .i64 count)],hsO (aT 13 14 15 16 17 18 19 20 ⟨⟨zl,zc⟩,zo,zd⟩),.uniq,.uniq,.uniq,.uniq,.uniq,.uniq,.uniq,.uniq,hoO [.glist 22 16 (zl.map (cnG 23 24 25)),.val (.int .i64 zc)],.uniq,.uniq,.uniq,.uniq,.uniq,.uniq,.uniq,.uniq]
abbrev qEnd (B:Base) (res:AV) (L1:List Own):AExit→List AV→List Own→Prop:=jz Tryz.prog B [.cell 4 24,.tmp 5] res L1
theorem bF {p:Prop} (h:p:=by first|((first|rfl|exact ek rfl (aS rfl rfl rfl _)|exact RowsRen.one (.cons (Ren.glR rfl (aS rfl rfl rfl _)) (.cons (.val _) .nil))|exact RowsRen.one (.cons (Ren.glR rfl (aK rfl rfl rfl _)) (.cons (.val _) .nil))|exact aw rfl rfl rfl (aC rfl rfl rfl _) (ay rfl _) (aG rfl _)|exact RowsRen.one (.cons (Ren.glR rfl (aC rfl rfl rfl _)) (.cons (.val _) .nil))|exact RowsRen.one (.cons (Ren.lR rfl (aC rfl rfl rfl _)) (.cons (.val _) .nil))|exact bf rfl _|(refine RowsRen.one ?_;(repeat (refine Cells.cons ?_ ?_;focus (first|exact .val _|exact Ren.ll rfl _|fail)));exact Cells.nil)|(exact ao));done)|fail):p:=h
theorem nZ (l:List Cn) (count:Int) (a:Act7) (res:AV) (L1:List Own) (hll:l.length≤3000) (hc : ∀ c∈l,aA c)
 (H : ∀ B:Base,B.h=ofL [.perm,.perm,.perm,.perm,.perm]→qAWs Tryz.prog B ((aZ Tryz.f15).drop 13) (qEnd B res L1) (stF (aR ⟨l,count⟩) (fi ⟨l,count⟩ a) (bc a.dw 14)) (stG l count a)) :
 ACallL Tryz.prog 15 [.agg [.list 1 16 (l.map (cnP 2 3 4)),.val (.int .i64 count)],.agg (alR 0 a)] [.perm,.perm,.perm,.perm,.perm] res L1:=by
 have pz:=al a.s.data
 have pb:=al a.b
 have cC:=ci ⟨l,count⟩ (by dsimp only;omega) hc
 dsimp only [hoR,alR,alL] at cC ⊢
 refine ACallL.of_AWs Tryz.func15 rfl (fun a w=>Tryz.call15 a w) (congrArg Array.toList Tryz.results15) Tryz.ntmps15 (by simp only [spine,List.cons_append,List.nil_append,List.append_assoc];rfl) fun B hB=>?_
 have cM:=pN ⟨l,count⟩ (by dsimp only;omega) hc
 have bk:=eU a.dw 14 (by decide)
 have cW:=jr a.dw 14 (by decide) (by decide)
 obtain ⟨may,hmay⟩ : ∃ b,aR ⟨l,count⟩=b:=⟨_,rfl⟩
 rw [hmay] at cM H
 dsimp only [hoR] at cM
 obtain ⟨k,hk⟩ : ∃ k,bc a.dw 14=k:=⟨_,rfl⟩
 rw [hk] at bk cW H
 obtain ⟨lk,hlk⟩ : ∃ v,fi ⟨l,count⟩ a=v:=⟨_,rfl⟩
 rw [hlk] at H
 refine qAWs.cut af 13 (by simp only [List.take_succ_cons,List.take_zero];rfl) (by simp only [List.drop_succ_cons,List.drop_zero];rfl) (by simp only [aJ];rfl) rfl (X:=Unit) (fun _=>stF may lk k) (fun _=>stG l count a) (fun _=>True) ?_ ?_
 ·have llen:(l.map (cnP 2 3 4)).length=l.length:=by simp
  unfold fi at hlk
  dsimp only at hlk
  cases hf:a.fit with
  | false =>
    have ea:stG l count a=stG l count { a with fit:=false }:=by rw [← hf]
    rw [hf,Bool.false_and,cond_false] at hlk
    subst hlk
    ((conv=>whnf);(repeat' ((first|refine gT ?_|((with_reducible refine ai ?_ ?_);focus (simp;done))|((with_reducible refine aj ?_ ?_);focus (simp;done))|(with_reducible refine ab (fun _=>?_) (fun _=>?_))|((with_reducible refine qcp (cW) ?_);refine pT ?_)|(((with_reducible refine qcr (cM) [(0,0),(0,1),(0,2),(0,3),(0,4)] [] ?_);refine cJ ?_))|(((with_reducible refine qco (cC) [] [(0,0),(0,1),(0,2),(0,3),(0,4)] [] [(1,8),(2,9),(3,10),(4,11)] [(8,.uniq),(9,.uniq),(10,.uniq),(11,.uniq)] (.agg [.glist 8 16 (l.map (cnG 9 10 11)),.val (.int .i64 count)]) ?_);refine cJ ?_)))<;>(conv=>whnf))))
    refine ⟨(),trivial,?_⟩
    rw [ea]
    as_aux_lemma =>
     (refine qcv hB [(5,5),(6,6),(7,7),(12,12),(13,13),(14,14)] [(0,0),(1,1),(2,2),(3,3),(4,4),(8,8),(9,9),(10,10),(11,11)] [] ?_;repeat' (with_reducible first|exact trivial|refine And.intro ?_ ?_))
     all_goals (try exact bF)
  | true =>
    have ea:stG l count a=stG l count { a with fit:=true }:=by rw [← hf]
    rw [hf,Bool.true_and] at hlk
    by_cases h0:0 < l.length
    ·have h0' : decide (0 < ((l.map (cnP 2 3 4)).length:Int))=true:=by rw [llen];simpa using h0
     rw [show decide (0 < (l.length:Int))=true by simpa using h0,cond_true] at hlk
     have cB:=jr a.link l.length (by omega) (by omega)
     have bb:=eU a.link l.length (by omega)
     obtain ⟨j,hj⟩ : ∃ j:Nat,bc a.link l.length=j:=⟨(bc a.link l.length).toNat,by omega⟩
     rw [hj] at cB bb hlk
     have hjl:j < l.length:=by omega
     obtain ⟨c,hck⟩ : ∃ p,l[j]?=some p:=⟨_,List.getElem?_eq_getElem hjl⟩
     have hg:l.getD (j:Int).toNat cnZ=c:=by simp [List.getD,hck]
     rw [hg] at hlk
     subst hlk
     have hrow:(l.map (cnP 2 3 4))[(j:Int).toNat]?=some (cnP 2 3 4 c):=by simp [hck]
     rw [← llen] at cB
     ((conv=>whnf);(repeat' ((first|refine gT ?_|((with_reducible refine ai ?_ ?_);focus (simp [hjl];done))|((with_reducible refine aj ?_ ?_);focus (simp [hjl];done))|(with_reducible refine ab (fun _=>?_) (fun _=>?_))|((with_reducible refine qcp (cW) ?_);refine pT ?_)|((with_reducible refine qcp (cB) ?_);refine pT ?_)|(refine ak (idxL rfl rfl rfl rfl rfl rfl (by omega) hrow) ?_)|(((with_reducible refine qcr (cM) [(0,0),(0,1),(0,2),(0,3),(0,4)] [] ?_);refine cJ ?_))|(((with_reducible refine qco (cC) [] [(0,0),(0,1),(0,2),(0,3),(0,4)] [] [(1,8),(2,9),(3,10),(4,11)] [(8,.uniq),(9,.uniq),(10,.uniq),(11,.uniq)] (.agg [.glist 8 16 (l.map (cnG 9 10 11)),.val (.int .i64 count)]) ?_);refine cJ ?_)))<;>(conv=>whnf))))
     refine ⟨(),trivial,?_⟩
     rw [ea]
     as_aux_lemma =>
      (refine qcv hB [(5,5),(6,6),(7,7),(12,12),(13,13),(14,14)] [(0,0),(1,1),(2,2),(3,3),(4,4),(8,8),(9,9),(10,10),(11,11)] [] ?_;repeat' (with_reducible first|exact trivial|refine And.intro ?_ ?_))
      all_goals (try exact bF)
    ·have h0' : decide (0 < ((l.map (cnP 2 3 4)).length:Int))=false:=by rw [llen];simpa using h0
     rw [show decide (0 < (l.length:Int))=false by simpa using h0,cond_false] at hlk
     subst hlk
     ((conv=>whnf);(repeat' ((first|refine gT ?_|((with_reducible refine ai ?_ ?_);focus (simp;done))|((with_reducible refine aj ?_ ?_);focus (simp;done))|(with_reducible refine ab (fun _=>?_) (fun _=>?_))|((with_reducible refine qcp (cW) ?_);refine pT ?_)|(((with_reducible refine qcr (cM) [(0,0),(0,1),(0,2),(0,3),(0,4)] [] ?_);refine cJ ?_))|(((with_reducible refine qco (cC) [] [(0,0),(0,1),(0,2),(0,3),(0,4)] [] [(1,8),(2,9),(3,10),(4,11)] [(8,.uniq),(9,.uniq),(10,.uniq),(11,.uniq)] (.agg [.glist 8 16 (l.map (cnG 9 10 11)),.val (.int .i64 count)]) ?_);refine cJ ?_)))<;>(conv=>whnf))))
     refine ⟨(),trivial,?_⟩
     rw [ea]
     as_aux_lemma =>
      (refine qcv hB [(5,5),(6,6),(7,7),(12,12),(13,13),(14,14)] [(0,0),(1,1),(2,2),(3,3),(4,4),(8,8),(9,9),(10,10),(11,11)] [] ?_;repeat' (with_reducible first|exact trivial|refine And.intro ?_ ?_))
      all_goals (try exact bF)
 rintro ⟨⟩ -
 exact qAWs.toF (fn:=Tryz.f15) rfl (by simp only [spine,List.cons_append,List.nil_append,List.append_assoc];rfl) 13 (by simp only [List.drop_succ_cons,List.drop_zero]) (H B hB)
theorem tG (l:List Cn) (count:Int) (z:Hs) (hll:l.length≤3000) (hc : ∀ c∈l,aA c) (hL:HsLen z) (B:Base) (hB:B.h=ofL [.perm,.perm,.perm,.perm,.perm]) :
 qAWs Tryz.prog B ((aZ Tryz.f15).drop 14) (qEnd B (.tup [.agg [.glist 5 16 (z.h.conns.map (cnP 6 7 8)),.val (.int .i64 z.h.count)],.val (.bool true)]) [.perm,.perm,.perm,.perm,.perm,.uniq,.uniq,.uniq,.uniq]) (okF z.out z.heard) (okG l count z.h.conns z.h.count z.out z.heard):=by
 have cE:=kq ⟨l,count⟩ (by dsimp only;omega) hc
 have cE2:=kq z.h (by have:=hL.conns;omega) hL.ok
 have cSm:=xL z.out (by have:=hL.out;omega) (fun x hx=>by have:=hL.data x hx;omega)
 have cHd:=qG z.heard (by have:=hL.heard;omega) (fun x hx=>by have:=hL.told x hx;omega)
 have sH:=uP z.h.conns z.h.count (by have:=hL.conns;omega) hL.ok
 have sD:=qi z.heard (by have:=hL.heard;omega) (fun x hx=>by have:=hL.told x hx;omega)
 obtain ⟨⟨zl,zc⟩,zo,zd⟩:=z
 dsimp only at sH cE2 cSm cHd sD
 dsimp only [hoR] at cE cE2 ⊢
 refine qAWs.ofF (fn:=Tryz.f15) rfl (by simp only [spine,List.cons_append,List.nil_append,List.append_assoc];rfl) 14 (by simp only [List.drop_succ_cons,List.drop_zero];rfl) ?_
 -- the comparing,what is let go of
 refine qAWs.cut af 4 (by simp only [List.take_succ_cons,List.take_zero];rfl) (by simp only [List.drop_succ_cons,List.drop_zero];rfl) (by simp only [aJ];rfl) rfl (X:=Unit) (fun _=>ap 224 [(2,.ptr 5 0 0),(4,.ptr 6 0 0),(6,.ptr 11 0 0),(8,.ptr 12 0 0),(10,.ptr 21 0 0),(11,.glist 26 8 (zo.map (snG 27))),(12,.glist 28 3 (zd.map (hdG 29)))])
  (fun _=>[.perm,.perm,.perm,.perm,.perm,hoO [.list 1 16 (l.map (cnP 2 3 4)),.val (.int .i64 count)],hoO [.val (.slice none 0 0),.val (.int .i64 0)],.uniq,.uniq,.uniq,.uniq,hoO [.glist 7 16 (l.map (cnG 8 9 10)),.val (.int .i64 count)],hsO (aT 13 14 15 16 17 18 19 20 ⟨⟨zl,zc⟩,zo,zd⟩),.uniq,.uniq,.uniq,.uniq,.uniq,.uniq,.uniq,.uniq,hoO [.glist 22 16 (zl.map (cnG 23 24 25)),.val (.int .i64 zc)],.uniq,.uniq,.uniq,.uniq,.uniq,.uniq,.uniq,.uniq]) (fun _=>True) ?_ ?_
 ·((conv=>whnf);(repeat' ((first|refine gT ?_|((with_reducible refine ai ?_ ?_);focus (simp;done))|((with_reducible refine aj ?_ ?_);focus (simp;done))|(with_reducible refine ab (fun _=>?_) (fun _=>?_))|((with_reducible refine qcp (gK _) ?_);refine pT ?_)|(((with_reducible refine qcr (cE) [(0,0),(0,1),(0,2),(0,3),(0,4),(0,7),(0,8),(0,9),(0,10)] [] ?_);refine cJ ?_)))<;>(conv=>whnf))))
  refine ⟨(),trivial,?_⟩
  as_aux_lemma =>
   (refine qcv hB [(5,5),(6,6),(11,11),(12,12),(21,21)] [(0,0),(1,1),(2,2),(3,3),(4,4),(7,7),(8,8),(9,9),(10,10),(13,13),(14,14),(15,15),(16,16),(17,17),(18,18),(19,19),(20,20),(22,22),(23,23),(24,24),(25,25),(26,26),(27,27),(28,28),(29,29)] [] ?_;repeat' (with_reducible first|exact trivial|refine And.intro ?_ ?_))
   all_goals (try exact bF)
 rintro ⟨⟩ -
 (try dsimp only)
 refine qAWs.cut af 1 (by simp only [List.take_succ_cons,List.take_zero];rfl) (by simp only [List.drop_succ_cons,List.drop_zero];rfl) (by simp only [aJ];rfl) rfl (X:=Unit) (fun _=>ap 224 [(2,.ptr 5 0 0),(4,.ptr 6 0 0),(6,.ptr 11 0 0),(8,.ptr 12 0 0),(10,.ptr 21 0 0),(11,.glist 26 8 (zo.map (snG 27))),(12,.glist 28 3 (zd.map (hdG 29))),(18,.val (.bool true))])
  (fun _=>[.perm,.perm,.perm,.perm,.perm,hoO [.list 1 16 (l.map (cnP 2 3 4)),.val (.int .i64 count)],hoO [.val (.slice none 0 0),.val (.int .i64 0)],.uniq,.uniq,.uniq,.uniq,hoO [.glist 7 16 (l.map (cnG 8 9 10)),.val (.int .i64 count)],hsO (aT 13 14 15 16 17 18 19 20 ⟨⟨zl,zc⟩,zo,zd⟩),.uniq,.uniq,.uniq,.uniq,.uniq,.uniq,.uniq,.uniq,hoO [.glist 22 16 (zl.map (cnG 23 24 25)),.val (.int .i64 zc)],.uniq,.uniq,.uniq,.uniq,.uniq,.uniq,.uniq,.uniq]) (fun _=>True) ?_ ?_
 ·((conv=>whnf);(repeat' ((first|refine gT ?_|((with_reducible refine ai ?_ ?_);focus (simp;done))|((with_reducible refine aj ?_ ?_);focus (simp;done))|(with_reducible refine ab (fun _=>?_) (fun _=>?_))|(((with_reducible refine qcr (cE2) [(0,0),(0,13),(0,14),(0,15),(0,16),(0,22),(0,23),(0,24),(0,25)] [] ?_);refine cJ ?_))|(((with_reducible refine qcr (cSm) [(0,0),(0,17),(0,18),(0,26),(0,27)] [] ?_);refine cJ ?_))|(((with_reducible refine qcr (cHd) [(0,0),(0,19),(0,20),(0,28),(0,29)] [] ?_);refine cJ ?_)))<;>(conv=>whnf))))
  refine ⟨(),trivial,?_⟩
  as_aux_lemma =>
   (refine qcv hB [(5,5),(6,6),(11,11),(12,12),(21,21)] [(0,0),(1,1),(2,2),(3,3),(4,4),(7,7),(8,8),(9,9),(10,10),(13,13),(14,14),(15,15),(16,16),(17,17),(18,18),(19,19),(20,20),(22,22),(23,23),(24,24),(25,25),(26,26),(27,27),(28,28),(29,29)] [] ?_;repeat' (with_reducible first|exact trivial|refine And.intro ?_ ?_))
   all_goals (try exact bF)
 rintro ⟨⟩ -
 (try dsimp only)
 refine qAWs.cut af 2 (by simp only [List.take_succ_cons,List.take_zero];rfl) (by simp only [List.drop_succ_cons,List.drop_zero];rfl) (by simp only [aJ];rfl) rfl (X:=Unit) (fun _=>ap 224 [(2,.ptr 5 0 0),(4,.ptr 6 0 0),(6,.ptr 11 0 0),(8,.ptr 12 0 0),(11,.glist 21 8 (zo.map (snG 22))),(18,.val (.bool true))])
  (fun _=>[.perm,.perm,.perm,.perm,.perm,hoO [.list 1 16 (l.map (cnP 2 3 4)),.val (.int .i64 count)],hoO [.val (.slice none 0 0),.val (.int .i64 0)],.uniq,.uniq,.uniq,.uniq,hoO [.glist 7 16 (l.map (cnG 8 9 10)),.val (.int .i64 count)],hsO (aT 13 14 15 16 17 18 19 20 ⟨⟨zl,zc⟩,zo,zd⟩),.uniq,.uniq,.uniq,.uniq,.uniq,.uniq,.uniq,.uniq,.uniq,.uniq]) (fun _=>True) ?_ ?_
 ·((conv=>whnf);(repeat' ((first|refine gT ?_|((with_reducible refine ai ?_ ?_);focus (simp;done))|((with_reducible refine aj ?_ ?_);focus (simp;done))|(with_reducible refine ab (fun _=>?_) (fun _=>?_))|(((with_reducible refine qco (sH) [] [(0,0),(1,22),(2,23),(3,24),(4,25)] [] [] [(22,.dead),(23,.dead),(24,.dead),(25,.dead)] (.tup []) ?_);refine cJ ?_))|(((with_reducible refine qco (sD) [] [(0,0),(1,28),(2,29)] [] [] [(28,.dead),(29,.dead)] (.tup []) ?_);refine cJ ?_)))<;>(conv=>whnf))))
  refine ⟨(),trivial,?_⟩
  as_aux_lemma =>
   (refine qcv hB [(5,5),(6,6),(11,11),(12,12)] [(0,0),(1,1),(2,2),(3,3),(4,4),(7,7),(8,8),(9,9),(10,10),(13,13),(14,14),(15,15),(16,16),(17,17),(18,18),(19,19),(20,20),(26,21),(27,22)] [] ?_;repeat' (with_reducible first|exact trivial|refine And.intro ?_ ?_))
   all_goals (try exact bF)
 rintro ⟨⟩ -
 (try dsimp only)
 -- the bytes of what was sent are let go of,slice by slice
 refine qAWs.cut af 2 (by simp only [List.take_succ_cons,List.take_zero];rfl) (by simp only [List.drop_succ_cons,List.drop_zero];rfl) (by simp only [aJ];rfl) rfl (X:=Unit) (fun _=>ap 224 [(2,.ptr 5 0 0),(4,.ptr 6 0 0),(6,.ptr 11 0 0),(8,.ptr 12 0 0),(18,.val (.bool true))])
  (fun _=>[.perm,.perm,.perm,.perm,.perm,hoO [.list 1 16 (l.map (cnP 2 3 4)),.val (.int .i64 count)],hoO [.val (.slice none 0 0),.val (.int .i64 0)],.uniq,.uniq,.uniq,.uniq,hoO [.glist 7 16 (l.map (cnG 8 9 10)),.val (.int .i64 count)],hsO (aT 13 14 15 16 17 18 19 20 ⟨⟨zl,zc⟩,zo,zd⟩),.uniq,.uniq,.uniq,.uniq,.uniq,.uniq,.uniq,.uniq,.uniq,.dead]) (fun _=>True) ?_ ?_
 ·((conv=>whnf);(repeat' ((first|refine gT ?_|((with_reducible refine ai ?_ ?_);focus (simp;done))|((with_reducible refine aj ?_ ?_);focus (simp;done))|(with_reducible refine ab (fun _=>?_) (fun _=>?_)))<;>(conv=>whnf))))
  refine qAW.ofD 21 22 11 rfl rfl rfl (by decide) (fun p hp=>by have:=hL.data p hp;omega) fun D f sd hsl=>?_
  have spB : ∀ (v:Value) (w:World),BySp D w v→Calls Tryz.prog 44 #[v] w fun e w' => e = .returned (.tuple #[])∧Sp D (fun _=>False) w w' := fun v w hv=>g7 D (fun _=>False) (fun _ _ h=>h) v w hv
  refine AD.cast (sl' := ap 224 [(2,.ptr 5 0 0),(4,.ptr 6 0 0),(6,.ptr 11 0 0),(8,.ptr 12 0 0),(11,.glist 21 8 (dM zo.length 8 f)),(18,.val (.bool true)),(19,.val (.int .i64 ((0:Nat):Int)))]) (h' := [.perm,.perm,.perm,.perm,.perm,hoO [.list 1 16 (l.map (cnP 2 3 4)),.val (.int .i64 count)],hoO [.val (.slice none 0 0),.val (.int .i64 0)],.uniq,.uniq,.uniq,.uniq,hoO [.glist 7 16 (l.map (cnG 8 9 10)),.val (.int .i64 count)],hsO (aT 13 14 15 16 17 18 19 20 ⟨⟨zl,zc⟩,zo,zd⟩),.uniq,.uniq,.uniq,.uniq,.uniq,.uniq,.uniq,.uniq,.uniq,.dead]) (by kernel_rfl) (by kernel_rfl) ?_
  refine AD.loop (by simp only [spine,List.cons_append,List.nil_append,List.append_assoc];rfl) (X:=Nat) (fun i=>ap 224 [(2,.ptr 5 0 0),(4,.ptr 6 0 0),(6,.ptr 11 0 0),(8,.ptr 12 0 0),(11,.glist 21 8 (dM zo.length 8 f)),(18,.val (.bool true)),(19,.val (.int .i64 i))]) (fun i=>i≤zo.length) (fun i=>zo.length - i) 0 (Nat.zero_le _) fun E i hi hE=>?_
  have hlen:(((dM zo.length 8 f).length:Nat):Int)=zo.length:=by rw [ma]
  have w:=IntWalk.i64_in ((i:Int) + 1) (by have:=hL.out;dsimp only at this;omega)
  by_cases hlt:i < zo.length
  ·obtain ⟨vp,vn,vc,h7⟩:=hsl i hlt
   have hrow:(dM zo.length 8 f)[(i:Int).toNat]?=some [.val (f i 0),.val (f i 1),.val (f i 2),.val (f i 3),.val (f i 4),.val (f i 5),.val (f i 6),.val (.slice vp vn vc)]:=by
    rw [show (i:Int).toNat=i by omega,ku hlt, ← h7];rfl
   refine qADs.go af fun B' hB' => ?_
   ((conv=>whnf);(repeat' ((first|refine gT ?_|((with_reducible refine ai ?_ ?_);focus (simp [hlt,hlen];done))|((with_reducible refine aj ?_ ?_);focus (simp [hlt,hlen];done))|(with_reducible refine ab (fun _=>?_) (fun _=>?_)))<;>(conv=>whnf))))
   refine ⟨_,_,qConv.same,gG rfl,?_⟩
   refine qADs.go af fun B' hB' => ?_
   ((conv=>whnf);(repeat' ((first|refine gT ?_|((with_reducible refine ai ?_ ?_);focus (simp [hlt,hlen];done))|((with_reducible refine aj ?_ ?_);focus (simp [hlt,hlen];done))|(with_reducible refine ab (fun _=>?_) (fun _=>?_)))<;>(conv=>whnf))))
   refine ⟨_,_,qConv.same,gG rfl,?_⟩
   refine qADs.block (by simp only [spine,List.cons_append,List.nil_append,List.append_assoc];rfl) ?_
   refine qADs.spoil (kw (n:=6) (by simp only [List.take_succ_cons,List.take_zero];rfl) (by simp only [List.drop_succ_cons,List.drop_zero];rfl)) rfl rfl (fun a w=>Tryz.call44 a w) spB sd fun B' hB' => ?_
   ((conv=>whnf);(repeat' ((first|refine gT ?_|((with_reducible refine ai ?_ ?_);focus (simp [hlt,hlen];done))|((with_reducible refine aj ?_ ?_);focus (simp [hlt,hlen];done))|(with_reducible refine ab (fun _=>?_) (fun _=>?_))|(refine ak (idxG rfl rfl rfl rfl rfl rfl (by omega) hrow) ?_))<;>(conv=>whnf))))
   refine ⟨gG rfl,.slice vp vn vc,rfl,⟨i,hlt,h7.symm⟩,?_⟩
   (conv=>whnf)
   refine qADs.nil ?_
   (conv=>whnf)
   refine qADs.go af fun B' hB=>?_
   ((conv=>whnf);(repeat' ((first|refine gT ?_|((with_reducible refine ai ?_ ?_);focus (simp;done))|((with_reducible refine aj ?_ ?_);focus (simp;done))|(with_reducible refine ab (fun _=>?_) (fun _=>?_)))<;>(conv=>whnf))))
   refine ⟨ap 224 [(2,.ptr 5 0 0),(4,.ptr 6 0 0),(6,.ptr 11 0 0),(8,.ptr 12 0 0),(11,.glist 21 8 (dM zo.length 8 f)),(18,.val (.bool true)),(19,.val (.int .i64 ((i + 1:Nat):Int)))],[.perm,.perm,.perm,.perm,.perm,hoO [.list 1 16 (l.map (cnP 2 3 4)),.val (.int .i64 count)],hoO [.val (.slice none 0 0),.val (.int .i64 0)],.uniq,.uniq,.uniq,.uniq,hoO [.glist 7 16 (l.map (cnG 8 9 10)),.val (.int .i64 count)],hsO (aT 13 14 15 16 17 18 19 20 ⟨⟨zl,zc⟩,zo,zd⟩),.uniq,.uniq,.uniq,.uniq,.uniq,.uniq,.uniq,.uniq,.uniq,.dead],?_,gG rfl,qADs.nil ?_⟩
   ·as_aux_lemma =>
     (refine qcv hB [(5,5),(6,6),(11,11),(12,12)] [(0,0),(1,1),(2,2),(3,3),(4,4),(7,7),(8,8),(9,9),(10,10),(13,13),(14,14),(15,15),(16,16),(17,17),(18,18),(19,19),(20,20),(21,21)] [] ?_;repeat' (with_reducible first|exact trivial|refine And.intro ?_ ?_))
     all_goals (try (first|(simp [w];done)))
     all_goals (try exact bF)
   ·subst hE
    exact ⟨rfl,i + 1,by omega,by omega,rfl⟩
  ·have e:i=zo.length:=by omega
   subst e
   refine qADs.go af fun B' hB' => ?_
   ((conv=>whnf);(repeat' ((first|refine gT ?_|((with_reducible refine ai ?_ ?_);focus (simp [hlt,hlen];done))|((with_reducible refine aj ?_ ?_);focus (simp [hlt,hlen];done))|(with_reducible refine ab (fun _=>?_) (fun _=>?_)))<;>(conv=>whnf))))
   refine ⟨_,_,qConv.same,gG rfl,?_⟩
   refine qADs.go af fun B' hB' => ?_
   ((conv=>whnf);(repeat' ((first|refine gT ?_|((with_reducible refine ai ?_ ?_);focus (simp [hlt,hlen];done))|((with_reducible refine aj ?_ ?_);focus (simp [hlt,hlen];done))|(with_reducible refine ab (fun _=>?_) (fun _=>?_)))<;>(conv=>whnf))))
   refine ⟨gG rfl,?_⟩
   subst hE
   (conv=>whnf)
   refine ⟨(),trivial,?_⟩
   as_aux_lemma =>
    (refine qcv hB [(5,5),(6,6),(11,11),(12,12)] [(0,0),(1,1),(2,2),(3,3),(4,4),(7,7),(8,8),(9,9),(10,10),(13,13),(14,14),(15,15),(16,16),(17,17),(18,18),(19,19),(20,20),(21,21)] [] ?_;repeat' (with_reducible first|exact trivial|refine And.intro ?_ ?_))
    all_goals (try exact bF)
 rintro ⟨⟩ -
 (try dsimp only)
 refine qAWs.fin af (by simp only [aJ];rfl) ?_
 ((conv=>whnf);(repeat' ((first|refine gT ?_|((with_reducible refine ai ?_ ?_);focus (simp;done))|((with_reducible refine aj ?_ ?_);focus (simp;done))|(with_reducible refine ab (fun _=>?_) (fun _=>?_))|(((with_reducible refine qcr (cE) [(0,0),(0,1),(0,2),(0,3),(0,4),(0,7),(0,8),(0,9),(0,10)] [] ?_);refine cJ ?_)))<;>(conv=>whnf))))
 as_aux_lemma =>
  (refine qcv hB [] [(0,0),(1,1),(2,2),(3,3),(4,4),(13,5),(14,6),(15,7),(16,8)] [] ?_;repeat' (with_reducible first|exact trivial|refine And.intro ?_ ?_))
  all_goals (try exact bF)
theorem bT {p q:Prop} (k:q) (h:Hold q→p:=by first|(intro hQ;refine And.intro ?_ ?_;(focus rfl);(conv=>whnf);(repeat (refine And.intro ?_ ?_;(focus (first|exact bA|(first|exact bl rfl rfl rfl _ rfl|exact aw rfl rfl rfl (aC rfl rfl rfl _) (ay rfl _) (aG rfl _))));(conv=>whnf)));(fail_if_success (with_reducible first|refine And.intro (bz ?_) ?_|refine And.intro (bD ?_) ?_));exact hQ.out)|fail):p:=h ⟨k⟩
theorem om {p q:Prop} (k:q) (h:Hold q→p:=by first|(intro hQ;refine And.intro ?_ (And.intro ?_ (And.intro ?_ (And.intro ?_ ?_)));(focus kernel_rfl);(focus kernel_rfl);(focus kernel_rfl);(focus kernel_rfl);(conv=>whnf);(repeat (refine And.intro ?_ ?_;(focus (first|exact bA|(first|exact bl rfl rfl rfl _ rfl|exact aw rfl rfl rfl (aC rfl rfl rfl _) (ay rfl _) (aG rfl _))));(conv=>whnf)));(fail_if_success (with_reducible first|refine And.intro (bz ?_) ?_|refine And.intro (bD ?_) ?_));exact hQ.out)|fail):p:=h ⟨k⟩
theorem bE {p:Prop} (h:p:=by first|((first|rfl|exact Ren.vgnil _ _|exact ek rfl (aS rfl rfl rfl _)|exact RowsRen.one (.cons (Ren.glR rfl (aS rfl rfl rfl _)) (.cons (.val _) .nil))|exact RowsRen.one (.cons (Ren.glR rfl (aK rfl rfl rfl _)) (.cons (.val _) .nil))|exact aw rfl rfl rfl (aC rfl rfl rfl _) (ay rfl _) (aG rfl _)|exact RowsRen.one (.cons (Ren.glR rfl (aC rfl rfl rfl _)) (.cons (.val _) .nil))|exact RowsRen.one (.cons (Ren.lR rfl (aC rfl rfl rfl _)) (.cons (.val _) .nil))|exact bf rfl _|(exact ao));done)|fail):p:=h
abbrev noF (e:Int):List AV:=ap 224 [(2,.ptr 5 0 0),(4,.ptr 6 0 0),(5,.val (.bool false)),(6,.ptr 11 0 0),(9,.val (.int .i64 e)),(11,.val (.slice none 0 0)),(12,.val (.slice none 0 0)),(13,.val (.int .i64 e))]
abbrev noG (l:List Cn) (count:Int):List Own:=[.perm,.perm,.perm,.perm,.perm,hoL l count,hoN,.uniq,.uniq,.uniq,.uniq,hoO [.glist 7 16 (l.map (cnG 8 9 10)),.val (.int .i64 count)]]
theorem uf (l:List Cn) (count e:Int) (hll:l.length≤3000) (hc : ∀ c∈l,aA c) (he:e≠0) (B:Base) (hB:B.h=ofL [.perm,.perm,.perm,.perm,.perm]) :
 qAWs Tryz.prog B ((aZ Tryz.f15).drop 14) (qEnd B (.tup [.agg [.list 1 16 (l.map (cnP 2 3 4)),.val (.int .i64 count)],.val (.bool true)]) [.perm,.perm,.perm,.perm,.perm]) (noF e) (noG l count):=by
 have cE:=kq ⟨l,count⟩ (by dsimp only;omega) hc
 have he1:(e != e)=false:=by simp
 have he2:(e != 0)=true:=by simpa using he
 dsimp only [hoR] at cE ⊢
 refine qAWs.ofF (fn:=Tryz.f15) rfl (by simp only [spine,List.cons_append,List.nil_append,List.append_assoc];rfl) 14 (by simp only [List.drop_succ_cons,List.drop_zero];rfl) ?_
 refine qAWs.fin af (by simp only [aJ];rfl) ?_
 ((conv=>whnf);(repeat' ((first|refine gT ?_|((with_reducible refine ai ?_ ?_);focus (simp;done))|((with_reducible refine aj ?_ ?_);focus (simp;done))|(with_reducible refine ab (fun _=>?_) (fun _=>?_))|((with_reducible refine qcp (gK _) ?_);refine pT ?_)|(((with_reducible refine qcr (cE) [(0,0),(0,1),(0,2),(0,3),(0,4),(0,7),(0,8),(0,9),(0,10)] [] ?_);refine bT ?_)))<;>(conv=>whnf))))
 as_aux_lemma =>
  (refine qcv hB [] [(0,0),(1,1),(2,2),(3,3),(4,4)] [] ?_;repeat' (with_reducible first|exact trivial|refine And.intro ?_ ?_))
  all_goals (try exact bE)
theorem nV (l:List Cn) (count lk:Int) (a:Act7) (hll:l.length≤3000) (hc : ∀ c∈l,aA c) (he:au ⟨l,count⟩ lk (fun _=>0)≠0) (B:Base) (hB:B.h=ofL [.perm,.perm,.perm,.perm,.perm]) (Q:AExit→List AV→List Own→Prop)
 (hq:qAWs Tryz.prog B ((aZ Tryz.f15).drop 14) Q (noF (au ⟨l,count⟩ lk (fun _=>0))) (noG l count)) :
 qAWs Tryz.prog B ((aZ Tryz.f15).drop 13) Q (stF (aR ⟨l,count⟩) lk 10) (stG l count a):=by
 have cP:=(jP ⟨l,count⟩ lk hc (by dsimp only;omega)).1 he
 obtain ⟨e,hee⟩ : ∃ e,au ⟨l,count⟩ lk (fun _=>0)=e:=⟨_,rfl⟩
 rw [hee] at cP he hq
 unfold au at hee
 dsimp only [hoR,noHo] at cP
 obtain ⟨sa,hsa⟩ : ∃ r,alR 0 a=r:=⟨_,rfl⟩
 dsimp only [stG]
 rw [hsa]
 refine qAWs.ofF (fn:=Tryz.f15) rfl (by simp only [spine,List.cons_append,List.nil_append,List.append_assoc];rfl) 13 (by simp only [List.drop_succ_cons,List.drop_zero];rfl) ?_
 refine qAWs.cut af 1 (by simp only [List.take_succ_cons,List.take_zero];rfl) (by simp only [List.drop_succ_cons,List.drop_zero];rfl) (by simp only [aJ];rfl) rfl (X:=Unit) (fun _=>noF e) (fun _=>noG l count) (fun _=>True) ?_ ?_
 rotate_left
 ·rintro ⟨⟩ -
  exact qAWs.toF (fn:=Tryz.f15) rfl (by simp only [spine,List.cons_append,List.nil_append,List.append_assoc];rfl) 14 (by simp only [List.drop_succ_cons,List.drop_zero]) hq
 cases hmay:aR ⟨l,count⟩ with
 | false =>
   rw [hmay,cond_false] at hee
   subst hee
   all_goals ((conv=>whnf);(repeat' ((first|refine gT ?_|((with_reducible refine ai ?_ ?_);focus (simp;done))|((with_reducible refine aj ?_ ?_);focus (simp;done))|(with_reducible refine ab (fun _=>?_) (fun _=>?_))|(((with_reducible refine qcr (cP) [(0,0),(0,8),(0,9),(0,10),(0,11)] [] ?_);refine bT ?_)))<;>(conv=>whnf))))
   all_goals refine ⟨(),trivial,?_⟩
   all_goals as_aux_lemma =>
    (refine qcv hB [(5,5),(7,6),(12,11)] [(0,0),(1,1),(2,2),(3,3),(4,4),(8,7),(9,8),(10,9),(11,10)] [] ?_;repeat' (with_reducible first|exact trivial|refine And.intro ?_ ?_))
    all_goals (try exact bE)
 | true =>
   rw [hmay,cond_true] at hee
   have H:=(aU _).1 hmay
   have hl8:=H.len
   dsimp only at hl8
   have e3:Ho.at_ ⟨l,count⟩ lk=none∧e=3:=by
    unfold Ho.withE at hee
    cases h:Ho.at_ ⟨l,count⟩ lk with
    | none=>rw [h] at hee;exact ⟨rfl,hee.symm⟩
    | some i=>rw [h] at hee;exact absurd hee.symm he
   have cR:=ms l count lk (by omega) e3.1
   rw [← e3.2] at cR
   dsimp only [hoR] at cR
   all_goals ((conv=>whnf);(repeat' ((first|refine gT ?_|((with_reducible refine ai ?_ ?_);focus (simp;done))|((with_reducible refine aj ?_ ?_);focus (simp;done))|(with_reducible refine ab (fun _=>?_) (fun _=>?_))|(((with_reducible refine qcr (cR) [(0,0),(0,1),(0,2),(0,3),(0,4)] [] ?_);refine bT ?_))|(((with_reducible refine qcr (cP) [(0,0),(0,8),(0,9),(0,10),(0,11)] [] ?_);refine bT ?_)))<;>(conv=>whnf))))
   all_goals refine ⟨(),trivial,?_⟩
   all_goals as_aux_lemma =>
    (refine qcv hB [(5,5),(7,6),(12,11)] [(0,0),(1,1),(2,2),(3,3),(4,4),(8,7),(9,8),(10,9),(11,10)] [] ?_;repeat' (with_reducible first|exact trivial|refine And.intro ?_ ?_))
    all_goals (try exact bE)
theorem oh (l:List Cn) (count lk:Int) (a:Act7) (hll:l.length≤3000) (hc : ∀ c∈l,aA c) (he:au ⟨l,count⟩ lk Cn.closeE≠0) (B:Base) (hB:B.h=ofL [.perm,.perm,.perm,.perm,.perm]) (Q:AExit→List AV→List Own→Prop)
 (hq:qAWs Tryz.prog B ((aZ Tryz.f15).drop 14) Q (noF (au ⟨l,count⟩ lk Cn.closeE)) (noG l count)) :
 qAWs Tryz.prog B ((aZ Tryz.f15).drop 13) Q (stF (aR ⟨l,count⟩) lk 9) (stG l count a):=by
 have cP:=(jV ⟨l,count⟩ lk hc (by dsimp only;omega)).1 he
 obtain ⟨e,hee⟩ : ∃ e,au ⟨l,count⟩ lk Cn.closeE=e:=⟨_,rfl⟩
 rw [hee] at cP he hq
 unfold au at hee
 dsimp only [hoR,noHo] at cP
 obtain ⟨sa,hsa⟩ : ∃ r,alR 0 a=r:=⟨_,rfl⟩
 dsimp only [stG]
 rw [hsa]
 refine qAWs.ofF (fn:=Tryz.f15) rfl (by simp only [spine,List.cons_append,List.nil_append,List.append_assoc];rfl) 13 (by simp only [List.drop_succ_cons,List.drop_zero];rfl) ?_
 refine qAWs.cut af 1 (by simp only [List.take_succ_cons,List.take_zero];rfl) (by simp only [List.drop_succ_cons,List.drop_zero];rfl) (by simp only [aJ];rfl) rfl (X:=Unit) (fun _=>noF e) (fun _=>noG l count) (fun _=>True) ?_ ?_
 rotate_left
 ·rintro ⟨⟩ -
  exact qAWs.toF (fn:=Tryz.f15) rfl (by simp only [spine,List.cons_append,List.nil_append,List.append_assoc];rfl) 14 (by simp only [List.drop_succ_cons,List.drop_zero]) hq
 cases hmay:aR ⟨l,count⟩ with
 | false =>
   rw [hmay,cond_false] at hee
   subst hee
   all_goals ((conv=>whnf);(repeat' ((first|refine gT ?_|((with_reducible refine ai ?_ ?_);focus (simp;done))|((with_reducible refine aj ?_ ?_);focus (simp;done))|(with_reducible refine ab (fun _=>?_) (fun _=>?_))|(((with_reducible refine qcr (cP) [(0,0),(0,8),(0,9),(0,10),(0,11)] [] ?_);refine bT ?_)))<;>(conv=>whnf))))
   all_goals refine ⟨(),trivial,?_⟩
   all_goals as_aux_lemma =>
    (refine qcv hB [(5,5),(7,6),(12,11)] [(0,0),(1,1),(2,2),(3,3),(4,4),(8,7),(9,8),(10,9),(11,10)] [] ?_;repeat' (with_reducible first|exact trivial|refine And.intro ?_ ?_))
    all_goals (try exact bE)
 | true =>
   rw [hmay,cond_true] at hee
   have H:=(aU _).1 hmay
   have hl8:=H.len
   dsimp only at hl8
   have cR:=mC l count lk (by omega) he hee
   dsimp only [hoR] at cR
   all_goals ((conv=>whnf);(repeat' ((first|refine gT ?_|((with_reducible refine ai ?_ ?_);focus (simp;done))|((with_reducible refine aj ?_ ?_);focus (simp;done))|(with_reducible refine ab (fun _=>?_) (fun _=>?_))|(((with_reducible refine qcr (cR) [(0,0),(0,1),(0,2),(0,3),(0,4)] [] ?_);refine bT ?_))|(((with_reducible refine qcr (cP) [(0,0),(0,8),(0,9),(0,10),(0,11)] [] ?_);refine bT ?_)))<;>(conv=>whnf))))
   all_goals refine ⟨(),trivial,?_⟩
   all_goals as_aux_lemma =>
    (refine qcv hB [(5,5),(7,6),(12,11)] [(0,0),(1,1),(2,2),(3,3),(4,4),(8,7),(9,8),(10,9),(11,10)] [] ?_;repeat' (with_reducible first|exact trivial|refine And.intro ?_ ?_))
    all_goals (try exact bE)
theorem oU (l:List Cn) (count lk:Int) (a:Act7) (hll:l.length≤3000) (hc : ∀ c∈l,aA c) (hb:a.b.length≤30000) (k:Int) (hk:k=7∨k=8) (he:au ⟨l,count⟩ lk (fun c=>c.sendE a.b)≠0) (B:Base) (hB:B.h=ofL [.perm,.perm,.perm,.perm,.perm]) (Q:AExit→List AV→List Own→Prop)
 (hq:qAWs Tryz.prog B ((aZ Tryz.f15).drop 14) Q (noF (au ⟨l,count⟩ lk (fun c=>c.sendE a.b))) (noG l count)) :
 qAWs Tryz.prog B ((aZ Tryz.f15).drop 13) Q (stF (aR ⟨l,count⟩) lk k) (stG l count a):=by
 have cP:=o8 ⟨l,count⟩ lk a.b hc (by dsimp only;omega) (by omega) he
 obtain ⟨e,hee⟩ : ∃ e,au ⟨l,count⟩ lk (fun c=>c.sendE a.b)=e:=⟨_,rfl⟩
 rw [hee] at cP he hq
 unfold au at hee
 dsimp only [hoR,noHo] at cP
 have cY:=bK a.b (by omega)
 have pb:=al a.b
 have pz:=al a.s.data
 dsimp only [stG,alR,alL]
 refine qAWs.ofF (fn:=Tryz.f15) rfl (by simp only [spine,List.cons_append,List.nil_append,List.append_assoc];rfl) 13 (by simp only [List.drop_succ_cons,List.drop_zero];rfl) ?_
 refine qAWs.cut af 1 (by simp only [List.take_succ_cons,List.take_zero];rfl) (by simp only [List.drop_succ_cons,List.drop_zero];rfl) (by simp only [aJ];rfl) rfl (X:=Unit) (fun _=>noF e) (fun _=>noG l count) (fun _=>True) ?_ ?_
 rotate_left
 ·rintro ⟨⟩ -
  exact qAWs.toF (fn:=Tryz.f15) rfl (by simp only [spine,List.cons_append,List.nil_append,List.append_assoc];rfl) 14 (by simp only [List.drop_succ_cons,List.drop_zero]) hq
 cases hmay:aR ⟨l,count⟩ with
 | false =>
   rw [hmay,cond_false] at hee
   subst hee
   all_goals (rcases hk with rfl|rfl)
   all_goals ((conv=>whnf);(repeat' ((first|refine gT ?_|((with_reducible refine ai ?_ ?_);focus (simp;done))|((with_reducible refine aj ?_ ?_);focus (simp;done))|(with_reducible refine ab (fun _=>?_) (fun _=>?_))|(((with_reducible refine qcf (fun r=>gL r a.b) (cY) [(0,0)] [] ?_);refine bT ?_))|(((with_reducible refine qcr (cP) [(0,0),(0,8),(0,9),(0,10),(0,11),(0,15)] [] ?_);refine bT ?_)))<;>(conv=>whnf))))
   all_goals refine ⟨(),trivial,?_⟩
   all_goals as_aux_lemma =>
    (refine qcv hB [(5,5),(7,6),(12,11)] [(0,0),(1,1),(2,2),(3,3),(4,4),(8,7),(9,8),(10,9),(11,10)] [] ?_;repeat' (with_reducible first|exact trivial|refine And.intro ?_ ?_))
    all_goals (try exact bE)
 | true =>
   rw [hmay,cond_true] at hee
   have H:=(aU _).1 hmay
   have hl8:=H.len
   dsimp only at hl8
   have cR:=nv l count lk a.b (by omega) (fun c hc=>(H.ok c hc).1.I.len) he hee
   dsimp only [hoR] at cR
   all_goals (rcases hk with rfl|rfl)
   all_goals ((conv=>whnf);(repeat' ((first|refine gT ?_|((with_reducible refine ai ?_ ?_);focus (simp;done))|((with_reducible refine aj ?_ ?_);focus (simp;done))|(with_reducible refine ab (fun _=>?_) (fun _=>?_))|(((with_reducible refine qcr (cR) [(0,0),(0,1),(0,2),(0,3),(0,4)] [] ?_);refine bT ?_))|(((with_reducible refine qcf (fun r=>gL r a.b) (cY) [(0,0)] [] ?_);refine bT ?_))|(((with_reducible refine qcr (cP) [(0,0),(0,8),(0,9),(0,10),(0,11),(0,15)] [] ?_);refine bT ?_)))<;>(conv=>whnf))))
   all_goals refine ⟨(),trivial,?_⟩
   all_goals as_aux_lemma =>
    (refine qcv hB [(5,5),(7,6),(12,11)] [(0,0),(1,1),(2,2),(3,3),(4,4),(8,7),(9,8),(10,9),(11,10)] [] ?_;repeat' (with_reducible first|exact trivial|refine And.intro ?_ ?_))
    all_goals (try exact bE)
theorem oA (l:List Cn) (count lk:Int) (a:Act7) (hll:l.length≤3000) (hc : ∀ c∈l,aA c) (k:Int) (hk:k=11∨k=12∨k=13) (hno:aR ⟨l,count⟩=false) (B:Base) (hB:B.h=ofL [.perm,.perm,.perm,.perm,.perm]) (Q:AExit→List AV→List Own→Prop)
 (hq:qAWs Tryz.prog B ((aZ Tryz.f15).drop 14) Q (noF (1)) (noG l count)) :
 qAWs Tryz.prog B ((aZ Tryz.f15).drop 13) Q (stF (aR ⟨l,count⟩) lk k) (stG l count a):=by
 have cP:=oK ⟨l,count⟩ hc (by dsimp only;omega) hno
 rw [hno]
 dsimp only [hoR,noHo] at cP
 obtain ⟨sa,hsa⟩ : ∃ r,alR 0 a=r:=⟨_,rfl⟩
 dsimp only [stG]
 rw [hsa]
 refine qAWs.ofF (fn:=Tryz.f15) rfl (by simp only [spine,List.cons_append,List.nil_append,List.append_assoc];rfl) 13 (by simp only [List.drop_succ_cons,List.drop_zero];rfl) ?_
 refine qAWs.cut af 1 (by simp only [List.take_succ_cons,List.take_zero];rfl) (by simp only [List.drop_succ_cons,List.drop_zero];rfl) (by simp only [aJ];rfl) rfl (X:=Unit) (fun _=>noF 1) (fun _=>noG l count) (fun _=>True) ?_ ?_
 rotate_left
 ·rintro ⟨⟩ -
  exact qAWs.toF (fn:=Tryz.f15) rfl (by simp only [spine,List.cons_append,List.nil_append,List.append_assoc];rfl) 14 (by simp only [List.drop_succ_cons,List.drop_zero]) hq
 ·rcases hk with rfl|rfl|rfl
  all_goals ((conv=>whnf);(repeat' ((first|refine gT ?_|((with_reducible refine ai ?_ ?_);focus (simp;done))|((with_reducible refine aj ?_ ?_);focus (simp;done))|(with_reducible refine ab (fun _=>?_) (fun _=>?_))|(((with_reducible refine qcr (cP) [(0,0),(0,8),(0,9),(0,10),(0,11)] [] ?_);refine bT ?_)))<;>(conv=>whnf))))
  all_goals refine ⟨(),trivial,?_⟩
  all_goals as_aux_lemma =>
   (refine qcv hB [(5,5),(7,6),(12,11)] [(0,0),(1,1),(2,2),(3,3),(4,4),(8,7),(9,8),(10,9),(11,10)] [] ?_;repeat' (with_reducible first|exact trivial|refine And.intro ?_ ?_))
   all_goals (try exact bE)
theorem oR (l:List Cn) (count lk:Int) (a:Act7) (hll:l.length≤3000) (hc : ∀ c∈l,aA c) (ha:a.s.data.length≤30000) (k:Int) (hk:0≤k∧k≤6) (hno:(aR ⟨l,count⟩ && (am (fit7 ⟨l,count⟩ a).1 4294967295 && sgB (fit7 ⟨l,count⟩ a).2))=false) (B:Base) (hB:B.h=ofL [.perm,.perm,.perm,.perm,.perm]) (Q:AExit→List AV→List Own→Prop)
 (hq:qAWs Tryz.prog B ((aZ Tryz.f15).drop 14) Q (noF (1)) (noG l count)) :
 qAWs Tryz.prog B ((aZ Tryz.f15).drop 13) Q (stF (aR ⟨l,count⟩) lk k) (stG l count a):=by
 have cF:=pW ⟨l,count⟩ a (by dsimp only;omega) hc ha
 have hfd:=l6 ⟨l,count⟩ a
 have cP:=oB ⟨l,count⟩ (fit7 ⟨l,count⟩ a).1 (fit7 ⟨l,count⟩ a).2 hc (by dsimp only;omega) hno
 obtain ⟨⟨ip,s⟩,hf⟩ : ∃ r,fit7 ⟨l,count⟩ a=r:=⟨_,rfl⟩
 rw [hf] at cF hfd cP hno
 dsimp only at cF hfd cP hno
 have cS:=iO s (by rw [hfd];omega)
 have cE:=lC s s (by rw [hfd];omega)
 rw [decide_eq_true (rfl:s=s)] at cE
 have cW:=dx ip
 have cG:=jW s
 obtain ⟨b1,hb1⟩ : ∃ b,aR ⟨l,count⟩=b:=⟨_,rfl⟩
 obtain ⟨b2,hb2⟩ : ∃ b,am ip 4294967295=b:=⟨_,rfl⟩
 obtain ⟨b3,hb3⟩ : ∃ b,sgB s=b:=⟨_,rfl⟩
 rw [hb1,hb2,hb3] at hno
 rw [hb1]
 rw [hb2] at cW
 rw [hb3] at cG
 have pz:=al a.s.data
 have pb:=al a.b
 have ps:=al s.data
 obtain ⟨n1,n2,n3,n4,n5,n6,n7⟩:(k == 7)=false∧(k == 8)=false∧(k == 9)=false∧(k == 10)=false∧(k == 11)=false∧(k == 12)=false∧(k == 13)=false:=by
  simp only [beq_eq_false_iff_ne];omega
 dsimp only [hoR,noHo,sgR,sgG,sgL,alR,alL] at cP cF cS cE cG
 dsimp only [stG,alR,alL]
 clear hf hb1 hb2 hb3
 refine qAWs.ofF (fn:=Tryz.f15) rfl (by simp only [spine,List.cons_append,List.nil_append,List.append_assoc];rfl) 13 (by simp only [List.drop_succ_cons,List.drop_zero];rfl) ?_
 refine qAWs.cut af 1 (by simp only [List.take_succ_cons,List.take_zero];rfl) (by simp only [List.drop_succ_cons,List.drop_zero];rfl) (by simp only [aJ];rfl) rfl (X:=Unit) (fun _=>noF 1) (fun _=>noG l count) (fun _=>True) ?_ ?_
 rotate_left
 ·rintro ⟨⟩ -
  exact qAWs.toF (fn:=Tryz.f15) rfl (by simp only [spine,List.cons_append,List.nil_append,List.append_assoc];rfl) 14 (by simp only [List.drop_succ_cons,List.drop_zero]) hq
 ·cases b1<;>cases b2<;>cases b3<;>first|(exact absurd hno (by decide))|skip
  all_goals clear hno
  all_goals ((conv=>whnf);(repeat' ((first|refine gT ?_|((with_reducible refine ai ?_ ?_);focus (simp;done))|((with_reducible refine aj ?_ ?_);focus (simp;done))|(with_reducible refine ab (fun _=>?_) (fun _=>?_))|((with_reducible refine qcp (cW) ?_);refine pT ?_)|(((with_reducible refine qcx (cF) [] [(0,0),(0,1),(0,2),(0,3),(0,4)] [] [(1,15)] [(15,.uniq)] (.tup [.val (.int .i64 ip),.agg (sgG 15 s)]) [] [(1,15)] [] ?_);refine om ?_))|(((with_reducible refine qcr (cG) [(0,0),(0,15)] [] ?_);refine bT ?_))|(((with_reducible refine qcx (cS) [] [(0,0),(0,15)] [] [(1,17)] [(17,.uniq)] (.agg (sgG 17 s)) [] [(1,17)] [] ?_);refine om ?_))|(((with_reducible refine qcr (cP) [(0,0),(0,8),(0,9),(0,10),(0,11),(0,17)] [] ?_);refine bT ?_))|(((with_reducible refine qcr (cE) [(0,0),(0,15),(0,17)] [] ?_);refine bT ?_)))<;>(conv=>whnf))))
  all_goals refine ⟨(),trivial,?_⟩
  all_goals as_aux_lemma =>
   (refine qcv hB [(5,5),(7,6),(12,11)] [(0,0),(1,1),(2,2),(3,3),(4,4),(8,7),(9,8),(10,9),(11,10)] [] ?_;repeat' (with_reducible first|exact trivial|refine And.intro ?_ ?_))
   all_goals (try exact bE)
set_option maxHeartbeats 4000000
theorem StI.sent {c:Cn} {y:Stp} {n:Nat} (ip:Int) (h:StI c n y):(toS ip y.out).length≤n ∧ ∀ p∈toS ip y.out,p.2.data.length≤1000:=by
 unfold toS
 refine ⟨by rw [List.length_map];exact h.cnt,fun p hp=>?_⟩
 obtain ⟨m,hm,rfl⟩:=List.mem_map.1 hp
 have:=(h.segs m hm).len
 dsimp only
 omega
theorem HsLen.mk' {z:Hs} (H:HoI z.h) (ho:z.out.length≤100000 ∧ ∀ p∈z.out,p.2.data.length≤1000) (hd:z.heard.length≤1000 ∧ ∀ x∈z.heard,x.data.length≤2048):HsLen z :=
 ⟨H.len,fun c hc=>(H.ok c hc).1.I.cnLen,ho.1,ho.2,hd.1,hd.2⟩
theorem ka {h:Ho} (H:HoI h) {link:Int} {f:Cn→Stp} (hf : ∀ c,CnI c→c∈h.conns→c.link=link→h.conns.getD ((h.at_ link).getD 0) cnZ=c→CnI (f c).c∧StI c 8200 (f c)):HsLen (h.withS link f):=by
 unfold Ho.withS
 cases ha:h.at_ link with
 | none=>exact .mk' H ⟨by simp,by simp⟩ ⟨by simp,by simp⟩
 | some i =>
   rw [ha] at hf
   unfold Ho.at_ at ha
   obtain ⟨c,hi,hp,hg⟩:=bV ha
   dsimp only
   rw [hg]
   have hm:=List.mem_of_getElem? hi
   obtain ⟨a,b⟩:=hf c (H.ok c hm).1.I hm (by simpa using hp) (by simpa using hg)
   refine .mk' (H.put hi a b.e1 b.e2 b.e3 b.e4) ?_ ⟨by simp,by simp⟩
   obtain ⟨s1,s2⟩:=b.sent c.ip
   exact ⟨Nat.le_trans s1 (by decide),s2⟩
theorem dT {h:Ho} {link:Int} {e:Cn→Int} {c:Cn} (he:au h link e=0):HoI h∧(h.conns.getD ((h.at_ link).getD 0) cnZ=c→e c=0):=by
 unfold au at he
 cases hb:aR h with
 | false=>rw [hb] at he;exact absurd (show (1:Int)=0 from he) (by decide)
 | true =>
   rw [hb,cond_true] at he
   refine ⟨(aU _).1 hb,fun hc=>?_⟩
   unfold Ho.withE at he
   cases ha:h.at_ link with
   | none=>rw [ha] at he;exact absurd (show (3:Int)=0 from he) (by decide)
   | some i =>
     rw [ha] at he hc
     dsimp only at he
     rw [Option.getD_some] at hc
     rw [hc] at he
     exact he
theorem u6 {h:Ho} {link:Int} {xs:List Int} (he:au h link (fun c=>c.sendE xs)=0):HsLen (h.withS link (fun c=>c.sends xs)) :=
 ka (dT (c:=cnZ) he).1 fun c hI _ _ hg=>iN hI ((dT he).2 hg)
theorem sw {h:Ho} {link:Int} (he:au h link Cn.closeE=0):HsLen (h.withS link Cn.closes) :=
 ka (dT (c:=cnZ) he).1 fun c hI _ _ hg=>ju hI ((dT he).2 hg)
theorem rC {h:Ho} {link:Int} (he:au h link (fun _=>0)=0):HsLen (h.withS link Cn.aborts) :=
 ka (dT (c:=cnZ) he).1 fun c hI _ _ hg=>gF hI
theorem jS : ∀ l:List Cn,(∀ c∈l,CnI c) → ∀ p∈(aq l).2.1,p.2.data.length≤1000
 | [],_=>by simp [aq]
 | c::l,h=>by
   intro p hp
   unfold aq at hp
   dsimp only at hp
   rcases List.mem_append.1 hp with hp|hp
   ·exact ((fm (h c (by simp))).2.sent c.ip).2 p hp
   ·exact jS l (fun d hd=>h d (by simp [hd])) p hp
theorem ur {h:Ho} (H:HoI h):HsLen h.tick:=by
 have hIs : ∀ d∈h.conns,CnI d:=fun d hd=>(H.ok d hd).1.I
 have h1:=gu h.conns hIs
 obtain ⟨h2,h3⟩:=eQ h.conns
 have h8:=H.len
 refine .mk' (su H) ⟨?_,jS _ hIs⟩ ⟨?_,fun x hx=>?_⟩
 ·show (aq h.conns).2.1.length≤100000
  omega
 ·show (aq h.conns).2.2.length≤1000
  omega
 ·rw [h2 x hx];simp
theorem tJ {h:Ho} (H:HoI h) {ip:Int} (hip:0≤ip∧ip≤4294967295) {s:Sg} (hs:sgB s=true):HsLen (h.take ip s):=by
 have HH:=sx H hip hs
 unfold Ho.take at HH ⊢
 cases hf:h.conns.findIdx? (hisB ip s) with
 | some i =>
   obtain ⟨c,hi,hp,hg⟩:=bV hf
   rw [hf] at HH
   dsimp only at HH ⊢
   rw [hg] at HH ⊢
   have hI:=(H.ok c (List.mem_of_getElem? hi)).1.I
   have hS:=jb hI hs
   obtain ⟨s1,s2⟩:=hS.sent ip
   refine .mk' HH ⟨Nat.le_trans s1 (by decide),s2⟩ ?_
   unfold dR
   exact aB (p:=fun r:List Hd=>r.length≤1000 ∧ ∀ x∈r,x.data.length≤2048) (fun _=>⟨by simp,fun x hx=>by rw [List.mem_singleton.1 hx];exact hS.told⟩) (fun _=>⟨by simp,by simp⟩)
 | none =>
   rw [hf] at HH
   dsimp only at HH ⊢
   unfold Ho.fresh at HH ⊢
   have n0 : ∀ r:Hs,r.heard=[]→r.heard.length≤1000 ∧ ∀ x∈r.heard,x.data.length≤2048:=fun r e=>by rw [e];exact ⟨by simp,by simp⟩
   have ho : ∀ r:Hs,HoI r.h→(r.out=[]∨r.out=[(ip,bm s)]∨r=h.more ip s)→r.heard=[]→HsLen r:=by
    intro r Hr hh hn
    refine .mk' Hr ?_ (n0 r hn)
    rcases hh with e|e|e
    ·rw [e];exact ⟨by simp,by simp⟩
    ·rw [e];exact ⟨by simp,fun p hp=>by rw [List.mem_singleton.1 hp];dsimp only;rw [(mf s).2];simp⟩
    ·subst e
     refine ⟨by show (1:Nat)≤100000;decide,fun p hp=>?_⟩
     have:p=_:=List.mem_singleton.1 hp
     rw [this]
     show (0:Nat)≤1000
     decide
   cases hb:flN s.fl 4 with
   | false=>rw [hb,cond_false] at HH;rw [cond_false];exact ho _ HH (.inl rfl) rfl
   | true =>
     rw [hb,cond_true] at HH
     rw [cond_true]
     cases hb2:(!(s.dp == 1883) || (flN s.fl 2 || (!flN s.fl 16 || (decide (8≤h.conns.length) || (decide (4≤synN h.conns) || h.count == 1099511627776))))) with
     | true=>rw [hb2,cond_true] at HH;rw [cond_true];exact ho _ HH (.inr (.inl rfl)) rfl
     | false=>rw [hb2,cond_false] at HH;rw [cond_false];exact ho _ HH (.inr (.inr rfl)) rfl
abbrev stOk (l:List Cn) (count:Int) (a:Act7) (g:Ho):Prop:=ACallL Tryz.prog 15 [.agg [.list 1 16 (l.map (cnP 2 3 4)),.val (.int .i64 count)],.agg (alR 0 a)] [.perm,.perm,.perm,.perm,.perm] (.tup [.agg [.glist 5 16 (g.conns.map (cnP 6 7 8)),.val (.int .i64 g.count)],.val (.bool true)]) [.perm,.perm,.perm,.perm,.perm,.uniq,.uniq,.uniq,.uniq]
abbrev qX (l:List Cn) (count:Int) (a:Act7):Prop:=ACallL Tryz.prog 15 [.agg [.list 1 16 (l.map (cnP 2 3 4)),.val (.int .i64 count)],.agg (alR 0 a)] [.perm,.perm,.perm,.perm,.perm] (.tup [.agg [.list 1 16 (l.map (cnP 2 3 4)),.val (.int .i64 count)],.val (.bool true)]) [.perm,.perm,.perm,.perm,.perm]
def js (l:List Cn) (count:Int) (a:Act7):Prop:=(∃ g:Ho,HoI g∧stOk l count a g)∨qX l count a
theorem fW {l:List Cn} {count:Int} {a:Act7} {e:Int} (hll:l.length≤3000) (hc : ∀ c∈l,aA c) (he:e≠0)
 (H : ∀ B:Base,B.h=ofL [.perm,.perm,.perm,.perm,.perm] → ∀ Q,qAWs Tryz.prog B ((aZ Tryz.f15).drop 14) Q (noF e) (noG l count)→qAWs Tryz.prog B ((aZ Tryz.f15).drop 13) Q (stF (aR ⟨l,count⟩) (fi ⟨l,count⟩ a) (bc a.dw 14)) (stG l count a)):qX l count a :=
 nZ l count a _ _ hll hc fun B hB=>H B hB _ (uf l count e hll hc he B hB)
theorem gJ {l:List Cn} {count:Int} {a:Act7} {z:Hs} (hll:l.length≤3000) (hc : ∀ c∈l,aA c) (hL:HsLen z)
 (H : ∀ B:Base,B.h=ofL [.perm,.perm,.perm,.perm,.perm] → ∀ Q,qAWs Tryz.prog B ((aZ Tryz.f15).drop 14) Q (okF z.out z.heard) (okG l count z.h.conns z.h.count z.out z.heard)→qAWs Tryz.prog B ((aZ Tryz.f15).drop 13) Q (stF (aR ⟨l,count⟩) (fi ⟨l,count⟩ a) (bc a.dw 14)) (stG l count a)):stOk l count a z.h :=
 nZ l count a _ _ hll hc fun B hB=>H B hB _ (tG l count z hll hc hL B hB)
set_option maxHeartbeats 16000000
theorem nC {p q:Prop} (k:q) (h:Hold q→p:=by first|(intro hQ;refine And.intro ?_ (And.intro ?_ (And.intro ?_ (And.intro ?_ ?_)));(focus kernel_rfl);(focus kernel_rfl);(focus kernel_rfl);(focus kernel_rfl);(conv=>whnf);(repeat (refine And.intro ?_ ?_;(focus (first|exact bA|(first|exact bl rfl rfl rfl _ rfl|exact aw rfl rfl rfl (aC rfl rfl rfl _) (ay rfl _) (aG rfl _))));(conv=>whnf)));(fail_if_success (with_reducible first|refine And.intro (bz ?_) ?_|refine And.intro (bD ?_) ?_));exact hQ.out)|fail):p:=h ⟨k⟩
theorem mA {p:Prop} (h:p:=by first|((first|rfl|exact Ren.vgnil _ _|exact ek rfl (aS rfl rfl rfl _)|exact RowsRen.one (.cons (Ren.glR rfl (aS rfl rfl rfl _)) (.cons (.val _) .nil))|exact RowsRen.one (.cons (Ren.glR rfl (aK rfl rfl rfl _)) (.cons (.val _) .nil))|exact aw rfl rfl rfl (aC rfl rfl rfl _) (ay rfl _) (aG rfl _)|exact RowsRen.one (.cons (Ren.glR rfl (aC rfl rfl rfl _)) (.cons (.val _) .nil))|exact RowsRen.one (.cons (Ren.lR rfl (aC rfl rfl rfl _)) (.cons (.val _) .nil))|exact bf rfl _|(exact ao));done)|fail):p:=h
theorem qm (l:List Cn) (count lk:Int) (a:Act7) (z:Hs) (hll:l.length≤3000) (hc : ∀ c∈l,aA c) (he:au ⟨l,count⟩ lk (fun _=>0)=0) (hz:Ho.withS ⟨l,count⟩ lk Cn.aborts=z) (B:Base) (hB:B.h=ofL [.perm,.perm,.perm,.perm,.perm]) (Q:AExit→List AV→List Own→Prop)
 (hq:qAWs Tryz.prog B ((aZ Tryz.f15).drop 14) Q (okF z.out z.heard) (okG l count z.h.conns z.h.count z.out z.heard)) :
 qAWs Tryz.prog B ((aZ Tryz.f15).drop 13) Q (stF (aR ⟨l,count⟩) lk 10) (stG l count a):=by
 have cP:=(jP ⟨l,count⟩ lk hc (by dsimp only;omega)).2 he
 rw [hz] at cP
 unfold au at he
 cases hmay:aR ⟨l,count⟩ with
 | false=>rw [hmay] at he;simp at he
 | true =>
   rw [hmay,cond_true] at he
   have H:=(aU _).1 hmay
   unfold Ho.withE at he
   cases ha2:Ho.at_ ⟨l,count⟩ lk with
   | none=>rw [ha2] at he;simp at he
   | some i =>
     obtain ⟨c,hci,hp,hg⟩:=bV ha2
     have cR:=mZ l count lk H ha2 hci
     have hzz:(⟨Ho.put ⟨l,count⟩ i c.aborts.c,toS c.ip c.aborts.out,[]⟩:Hs)=z:=by
      rw [← hz];unfold Ho.withS;rw [ha2];dsimp only;rw [hg]
     rw [hzz] at cR
     have hzd:z.heard=[]:=(congrArg Hs.heard hzz).symm
     obtain ⟨⟨zl,zc⟩,zo,zd⟩:=z
     dsimp only at hzd hq
     subst hzd
     dsimp only [hoR,hwA,hwH,rhH,aT] at cP cR
     obtain ⟨sa,hsa⟩ : ∃ r,alR 0 a=r:=⟨_,rfl⟩
     dsimp only [stG]
     rw [hsa]
     clear hzz hz hp hg he ha2
     refine qAWs.ofF (fn:=Tryz.f15) rfl (by simp only [spine,List.cons_append,List.nil_append,List.append_assoc];rfl) 13 (by simp only [List.drop_succ_cons,List.drop_zero];rfl) ?_
     refine qAWs.cut af 1 (by simp only [List.take_succ_cons,List.take_zero];rfl) (by simp only [List.drop_succ_cons,List.drop_zero];rfl) (by simp only [aJ];rfl) rfl (X:=Unit) (fun _=>okF zo []) (fun _=>okG l count zl zc zo []) (fun _=>True) ?_ ?_
     ·((conv=>whnf);(repeat' ((first|refine gT ?_|((with_reducible refine ai ?_ ?_);focus (simp;done))|((with_reducible refine aj ?_ ?_);focus (simp;done))|(with_reducible refine ab (fun _=>?_) (fun _=>?_))|(((with_reducible refine qcx (cR) [] [(0,0),(0,1),(0,2),(0,3),(0,4)] [] [(1,15),(2,16),(3,17),(4,18),(5,19),(6,20),(7,21),(8,22),(9,23)] [(15,hsO (aT 16 17 18 19 20 21 22 23 ⟨⟨zl,zc⟩,zo,[]⟩)),(16,.uniq),(17,.uniq),(18,.uniq),(19,.uniq),(20,.uniq),(21,.uniq),(22,.uniq),(23,.uniq)] (.tup [.ptr 15 0 0,.val (.int .i64 0)]) [(1,15)] [(2,16),(3,17),(4,18),(5,19),(6,20),(7,21),(8,22),(9,23)] [] ?_);refine nC ?_))|(((with_reducible refine qcx (cP) [] [(0,0),(0,8),(0,9),(0,10),(0,11)] [] [(1,24),(2,25),(3,26),(4,27),(5,28),(6,29)] [(24,.uniq),(25,.uniq),(26,.uniq),(27,.uniq),(28,.uniq),(29,.uniq)] (.tup [.agg [.glist 24 16 (zl.map (cnG 25 26 27)),.val (.int .i64 zc)],.glist 28 8 (zo.map (snG 29)),.val (.int .i64 0)]) [] [(1,24),(2,25),(3,26),(4,27),(5,28),(6,29)] [] ?_);refine nC ?_)))<;>(conv=>whnf))))
      refine ⟨(),trivial,?_⟩
      as_aux_lemma =>
       (refine qcv hB [(5,5),(7,6),(12,11),(15,12),(14,21)] [(0,0),(1,1),(2,2),(3,3),(4,4),(8,7),(9,8),(10,9),(11,10),(16,13),(17,14),(18,15),(19,16),(20,17),(21,18),(22,19),(23,20),(24,22),(25,23),(26,24),(27,25),(28,26),(29,27)] [] ?_;repeat' (with_reducible first|exact trivial|refine And.intro ?_ ?_))
       all_goals (try exact mA)
     ·rintro ⟨⟩ -
      exact qAWs.toF (fn:=Tryz.f15) rfl (by simp only [spine,List.cons_append,List.nil_append,List.append_assoc];rfl) 14 (by simp only [List.drop_succ_cons,List.drop_zero]) hq
theorem vK {p q:Prop} (k:q) (h:Hold q→p:=by first|(intro hQ;refine And.intro ?_ ?_;(focus rfl);(conv=>whnf);(repeat (refine And.intro ?_ ?_;(focus (first|exact bA|(first|exact bl rfl rfl rfl _ rfl|exact aw rfl rfl rfl (aC rfl rfl rfl _) (ay rfl _) (aG rfl _))));(conv=>whnf)));(fail_if_success (with_reducible first|refine And.intro (bz ?_) ?_|refine And.intro (bD ?_) ?_));exact hQ.out)|fail):p:=h ⟨k⟩
theorem n9 {p q:Prop} (k:q) (h:Hold q→p:=by first|(intro hQ;refine And.intro ?_ (And.intro ?_ (And.intro ?_ (And.intro ?_ ?_)));(focus kernel_rfl);(focus kernel_rfl);(focus kernel_rfl);(focus kernel_rfl);(conv=>whnf);(repeat (refine And.intro ?_ ?_;(focus (first|exact bA|(first|exact bl rfl rfl rfl _ rfl|exact aw rfl rfl rfl (aC rfl rfl rfl _) (ay rfl _) (aG rfl _))));(conv=>whnf)));(fail_if_success (with_reducible first|refine And.intro (bz ?_) ?_|refine And.intro (bD ?_) ?_));exact hQ.out)|fail):p:=h ⟨k⟩
theorem mu {p:Prop} (h:p:=by first|((first|rfl|exact Ren.vgnil _ _|exact ek rfl (aS rfl rfl rfl _)|exact RowsRen.one (.cons (Ren.glR rfl (aS rfl rfl rfl _)) (.cons (.val _) .nil))|exact RowsRen.one (.cons (Ren.glR rfl (aK rfl rfl rfl _)) (.cons (.val _) .nil))|exact aw rfl rfl rfl (aC rfl rfl rfl _) (ay rfl _) (aG rfl _)|exact RowsRen.one (.cons (Ren.glR rfl (aC rfl rfl rfl _)) (.cons (.val _) .nil))|exact RowsRen.one (.cons (Ren.lR rfl (aC rfl rfl rfl _)) (.cons (.val _) .nil))|exact bf rfl _|(exact ao));done)|fail):p:=h
theorem rk (l:List Cn) (count lk:Int) (a:Act7) (z:Hs) (hll:l.length≤3000) (hc : ∀ c∈l,aA c) (hb:a.b.length≤30000) (k:Int) (hk:k=7∨k=8) (he:au ⟨l,count⟩ lk (fun c=>c.sendE a.b)=0) (hz:Ho.withS ⟨l,count⟩ lk (fun c=>c.sends a.b)=z) (B:Base) (hB:B.h=ofL [.perm,.perm,.perm,.perm,.perm]) (Q:AExit→List AV→List Own→Prop)
 (hq:qAWs Tryz.prog B ((aZ Tryz.f15).drop 14) Q (okF z.out z.heard) (okG l count z.h.conns z.h.count z.out z.heard)) :
 qAWs Tryz.prog B ((aZ Tryz.f15).drop 13) Q (stF (aR ⟨l,count⟩) lk k) (stG l count a):=by
 have cP:=qD ⟨l,count⟩ lk a.b hc (by dsimp only;omega) (by omega) he
 rw [hz] at cP
 unfold au at he
 cases hmay:aR ⟨l,count⟩ with
 | false=>rw [hmay] at he;simp at he
 | true =>
   rw [hmay,cond_true] at he
   have H:=(aU _).1 hmay
   unfold Ho.withE at he
   cases ha2:Ho.at_ ⟨l,count⟩ lk with
   | none=>rw [ha2] at he;simp at he
   | some i =>
     obtain ⟨c,hci,hp,hg⟩:=bV ha2
     have he0:c.sendE a.b=0:=by rw [ha2] at he;dsimp only at he;rw [hg] at he;exact he
     have cR:=o5 l count lk a.b H ha2 hci he0
     have hzz:(⟨Ho.put ⟨l,count⟩ i (c.sends a.b).c,toS c.ip (c.sends a.b).out,[]⟩:Hs)=z:=by
      rw [← hz];unfold Ho.withS;rw [ha2];dsimp only;rw [hg]
     rw [hzz] at cR
     have hzd:z.heard=[]:=(congrArg Hs.heard hzz).symm
     obtain ⟨⟨zl,zc⟩,zo,zd⟩:=z
     dsimp only at hzd hq
     subst hzd
     dsimp only [hoR,hwA,hwH,rhH,aT] at cP cR
     have cY:=bK a.b (by omega)
     have pb:=al a.b
     have pz:=al a.s.data
     dsimp only [stG,alR,alL]
     clear hzz hz hp hg he ha2
     refine qAWs.ofF (fn:=Tryz.f15) rfl (by simp only [spine,List.cons_append,List.nil_append,List.append_assoc];rfl) 13 (by simp only [List.drop_succ_cons,List.drop_zero];rfl) ?_
     refine qAWs.cut af 1 (by simp only [List.take_succ_cons,List.take_zero];rfl) (by simp only [List.drop_succ_cons,List.drop_zero];rfl) (by simp only [aJ];rfl) rfl (X:=Unit) (fun _=>okF zo []) (fun _=>okG l count zl zc zo []) (fun _=>True) ?_ ?_
     ·rcases hk with rfl|rfl
      all_goals ((conv=>whnf);(repeat' ((first|refine gT ?_|((with_reducible refine ai ?_ ?_);focus (simp;done))|((with_reducible refine aj ?_ ?_);focus (simp;done))|(with_reducible refine ab (fun _=>?_) (fun _=>?_))|(((with_reducible refine qcx (cR) [] [(0,0),(0,1),(0,2),(0,3),(0,4)] [] [(1,15),(2,16),(3,17),(4,18),(5,19),(6,20),(7,21),(8,22),(9,23)] [(15,hsO (aT 16 17 18 19 20 21 22 23 ⟨⟨zl,zc⟩,zo,[]⟩)),(16,.uniq),(17,.uniq),(18,.uniq),(19,.uniq),(20,.uniq),(21,.uniq),(22,.uniq),(23,.uniq)] (.tup [.ptr 15 0 0,.val (.int .i64 0)]) [(1,15)] [(2,16),(3,17),(4,18),(5,19),(6,20),(7,21),(8,22),(9,23)] [] ?_);refine n9 ?_))|(((with_reducible refine qcf (fun r=>gL r a.b) (cY) [(0,0)] [] ?_);refine vK ?_))|(((with_reducible refine qcx (cP) [] [(0,0),(0,8),(0,9),(0,10),(0,11),(0,24)] [] [(1,25),(2,26),(3,27),(4,28),(5,29),(6,30)] [(25,.uniq),(26,.uniq),(27,.uniq),(28,.uniq),(29,.uniq),(30,.uniq)] (.tup [.agg [.glist 25 16 (zl.map (cnG 26 27 28)),.val (.int .i64 zc)],.glist 29 8 (zo.map (snG 30)),.val (.int .i64 0)]) [] [(1,25),(2,26),(3,27),(4,28),(5,29),(6,30)] [] ?_);refine n9 ?_)))<;>(conv=>whnf))))
      all_goals refine ⟨(),trivial,?_⟩
      all_goals as_aux_lemma =>
       (refine qcv hB [(5,5),(7,6),(12,11),(15,12),(14,21)] [(0,0),(1,1),(2,2),(3,3),(4,4),(8,7),(9,8),(10,9),(11,10),(16,13),(17,14),(18,15),(19,16),(20,17),(21,18),(22,19),(23,20),(25,22),(26,23),(27,24),(28,25),(29,26),(30,27)] [] ?_;repeat' (with_reducible first|exact trivial|refine And.intro ?_ ?_))
       all_goals (try exact mu)
     ·rintro ⟨⟩ -
      exact qAWs.toF (fn:=Tryz.f15) rfl (by simp only [spine,List.cons_append,List.nil_append,List.append_assoc];rfl) 14 (by simp only [List.drop_succ_cons,List.drop_zero]) hq
theorem m6 {p q:Prop} (k:q) (h:Hold q→p:=by first|(intro hQ;refine And.intro ?_ (And.intro ?_ (And.intro ?_ (And.intro ?_ ?_)));(focus kernel_rfl);(focus kernel_rfl);(focus kernel_rfl);(focus kernel_rfl);(conv=>whnf);(repeat (refine And.intro ?_ ?_;(focus (first|exact bA|(first|exact bl rfl rfl rfl _ rfl|exact aw rfl rfl rfl (aC rfl rfl rfl _) (ay rfl _) (aG rfl _))));(conv=>whnf)));(fail_if_success (with_reducible first|refine And.intro (bz ?_) ?_|refine And.intro (bD ?_) ?_));exact hQ.out)|fail):p:=h ⟨k⟩
theorem mE {p:Prop} (h:p:=by first|((first|rfl|exact Ren.vgnil _ _|exact ek rfl (aS rfl rfl rfl _)|exact RowsRen.one (.cons (Ren.glR rfl (aS rfl rfl rfl _)) (.cons (.val _) .nil))|exact RowsRen.one (.cons (Ren.glR rfl (aK rfl rfl rfl _)) (.cons (.val _) .nil))|exact aw rfl rfl rfl (aC rfl rfl rfl _) (ay rfl _) (aG rfl _)|exact RowsRen.one (.cons (Ren.glR rfl (aC rfl rfl rfl _)) (.cons (.val _) .nil))|exact RowsRen.one (.cons (Ren.lR rfl (aC rfl rfl rfl _)) (.cons (.val _) .nil))|exact bf rfl _|(exact ao));done)|fail):p:=h
theorem qY (l:List Cn) (count lk:Int) (a:Act7) (z:Hs) (hll:l.length≤3000) (hc : ∀ c∈l,aA c) (he:au ⟨l,count⟩ lk Cn.closeE=0) (hz:Ho.withS ⟨l,count⟩ lk Cn.closes=z) (B:Base) (hB:B.h=ofL [.perm,.perm,.perm,.perm,.perm]) (Q:AExit→List AV→List Own→Prop)
 (hq:qAWs Tryz.prog B ((aZ Tryz.f15).drop 14) Q (okF z.out z.heard) (okG l count z.h.conns z.h.count z.out z.heard)) :
 qAWs Tryz.prog B ((aZ Tryz.f15).drop 13) Q (stF (aR ⟨l,count⟩) lk 9) (stG l count a):=by
 have cP:=(jV ⟨l,count⟩ lk hc (by dsimp only;omega)).2 he
 rw [hz] at cP
 unfold au at he
 cases hmay:aR ⟨l,count⟩ with
 | false=>rw [hmay] at he;simp at he
 | true =>
   rw [hmay,cond_true] at he
   have H:=(aU _).1 hmay
   unfold Ho.withE at he
   cases ha2:Ho.at_ ⟨l,count⟩ lk with
   | none=>rw [ha2] at he;simp at he
   | some i =>
     obtain ⟨c,hci,hp,hg⟩:=bV ha2
     have he0:c.closeE=0:=by rw [ha2] at he;dsimp only at he;rw [hg] at he;exact he
     have cR:=nD l count lk H ha2 hci he0
     have hzz:(⟨Ho.put ⟨l,count⟩ i c.closes.c,toS c.ip c.closes.out,[]⟩:Hs)=z:=by
      rw [← hz];unfold Ho.withS;rw [ha2];dsimp only;rw [hg]
     rw [hzz] at cR
     have hzd:z.heard=[]:=(congrArg Hs.heard hzz).symm
     obtain ⟨⟨zl,zc⟩,zo,zd⟩:=z
     dsimp only at hzd hq
     subst hzd
     dsimp only [hoR,hwA,hwH,rhH,aT] at cP cR
     obtain ⟨sa,hsa⟩ : ∃ r,alR 0 a=r:=⟨_,rfl⟩
     dsimp only [stG]
     rw [hsa]
     clear hzz hz hp hg he ha2
     refine qAWs.ofF (fn:=Tryz.f15) rfl (by simp only [spine,List.cons_append,List.nil_append,List.append_assoc];rfl) 13 (by simp only [List.drop_succ_cons,List.drop_zero];rfl) ?_
     refine qAWs.cut af 1 (by simp only [List.take_succ_cons,List.take_zero];rfl) (by simp only [List.drop_succ_cons,List.drop_zero];rfl) (by simp only [aJ];rfl) rfl (X:=Unit) (fun _=>okF zo []) (fun _=>okG l count zl zc zo []) (fun _=>True) ?_ ?_
     ·((conv=>whnf);(repeat' ((first|refine gT ?_|((with_reducible refine ai ?_ ?_);focus (simp;done))|((with_reducible refine aj ?_ ?_);focus (simp;done))|(with_reducible refine ab (fun _=>?_) (fun _=>?_))|(((with_reducible refine qcx (cR) [] [(0,0),(0,1),(0,2),(0,3),(0,4)] [] [(1,15),(2,16),(3,17),(4,18),(5,19),(6,20),(7,21),(8,22),(9,23)] [(15,hsO (aT 16 17 18 19 20 21 22 23 ⟨⟨zl,zc⟩,zo,[]⟩)),(16,.uniq),(17,.uniq),(18,.uniq),(19,.uniq),(20,.uniq),(21,.uniq),(22,.uniq),(23,.uniq)] (.tup [.ptr 15 0 0,.val (.int .i64 0)]) [(1,15)] [(2,16),(3,17),(4,18),(5,19),(6,20),(7,21),(8,22),(9,23)] [] ?_);refine m6 ?_))|(((with_reducible refine qcx (cP) [] [(0,0),(0,8),(0,9),(0,10),(0,11)] [] [(1,24),(2,25),(3,26),(4,27),(5,28),(6,29)] [(24,.uniq),(25,.uniq),(26,.uniq),(27,.uniq),(28,.uniq),(29,.uniq)] (.tup [.agg [.glist 24 16 (zl.map (cnG 25 26 27)),.val (.int .i64 zc)],.glist 28 8 (zo.map (snG 29)),.val (.int .i64 0)]) [] [(1,24),(2,25),(3,26),(4,27),(5,28),(6,29)] [] ?_);refine m6 ?_)))<;>(conv=>whnf))))
      refine ⟨(),trivial,?_⟩
      as_aux_lemma =>
       (refine qcv hB [(5,5),(7,6),(12,11),(15,12),(14,21)] [(0,0),(1,1),(2,2),(3,3),(4,4),(8,7),(9,8),(10,9),(11,10),(16,13),(17,14),(18,15),(19,16),(20,17),(21,18),(22,19),(23,20),(24,22),(25,23),(26,24),(27,25),(28,26),(29,27)] [] ?_;repeat' (with_reducible first|exact trivial|refine And.intro ?_ ?_))
       all_goals (try exact mE)
     ·rintro ⟨⟩ -
      exact qAWs.toF (fn:=Tryz.f15) rfl (by simp only [spine,List.cons_append,List.nil_append,List.append_assoc];rfl) 14 (by simp only [List.drop_succ_cons,List.drop_zero]) hq
theorem nh {p q:Prop} (k:q) (h:Hold q→p:=by first|(intro hQ;refine And.intro ?_ (And.intro ?_ (And.intro ?_ (And.intro ?_ ?_)));(focus kernel_rfl);(focus kernel_rfl);(focus kernel_rfl);(focus kernel_rfl);(conv=>whnf);(repeat (refine And.intro ?_ ?_;(focus (first|exact bA|(first|exact bl rfl rfl rfl _ rfl|exact aw rfl rfl rfl (aC rfl rfl rfl _) (ay rfl _) (aG rfl _))));(conv=>whnf)));(fail_if_success (with_reducible first|refine And.intro (bz ?_) ?_|refine And.intro (bD ?_) ?_));exact hQ.out)|fail):p:=h ⟨k⟩
theorem mw {p:Prop} (h:p:=by first|((first|rfl|exact Ren.vgnil _ _|exact ek rfl (aS rfl rfl rfl _)|exact RowsRen.one (.cons (Ren.glR rfl (aS rfl rfl rfl _)) (.cons (.val _) .nil))|exact RowsRen.one (.cons (Ren.glR rfl (aK rfl rfl rfl _)) (.cons (.val _) .nil))|exact aw rfl rfl rfl (aC rfl rfl rfl _) (ay rfl _) (aG rfl _)|exact RowsRen.one (.cons (Ren.glR rfl (aC rfl rfl rfl _)) (.cons (.val _) .nil))|exact RowsRen.one (.cons (Ren.lR rfl (aC rfl rfl rfl _)) (.cons (.val _) .nil))|exact bf rfl _|(exact ao));done)|fail):p:=h
theorem sV (l:List Cn) (count lk:Int) (a:Act7) (z:Hs) (k:Int) (hk:k=11∨k=12∨k=13) (H:HoI ⟨l,count⟩) (hz:Ho.tick ⟨l,count⟩=z) (B:Base) (hB:B.h=ofL [.perm,.perm,.perm,.perm,.perm]) (Q:AExit→List AV→List Own→Prop)
 (hq:qAWs Tryz.prog B ((aZ Tryz.f15).drop 14) Q (okF z.out z.heard) (okG l count z.h.conns z.h.count z.out z.heard)) :
 qAWs Tryz.prog B ((aZ Tryz.f15).drop 13) Q (stF (aR ⟨l,count⟩) lk k) (stG l count a):=by
 rw [(aU _).2 H]
 have cP:=q8 l count H
 have cR:=oM l count H
 rw [hz] at cP cR
 obtain ⟨⟨zl,zc⟩,zo,zd⟩:=z
 dsimp only at hq
 dsimp only [hoR,hsA,hsH,rhH,aT] at cP cR
 obtain ⟨sa,hsa⟩ : ∃ r,alR 0 a=r:=⟨_,rfl⟩
 dsimp only [stG]
 rw [hsa]
 clear hz
 refine qAWs.ofF (fn:=Tryz.f15) rfl (by simp only [spine,List.cons_append,List.nil_append,List.append_assoc];rfl) 13 (by simp only [List.drop_succ_cons,List.drop_zero];rfl) ?_
 refine qAWs.cut af 1 (by simp only [List.take_succ_cons,List.take_zero];rfl) (by simp only [List.drop_succ_cons,List.drop_zero];rfl) (by simp only [aJ];rfl) rfl (X:=Unit) (fun _=>okF zo zd) (fun _=>okG l count zl zc zo zd) (fun _=>True) ?_ ?_
 ·rcases hk with rfl|rfl|rfl
  all_goals ((conv=>whnf);(repeat' ((first|refine gT ?_|((with_reducible refine ai ?_ ?_);focus (simp;done))|((with_reducible refine aj ?_ ?_);focus (simp;done))|(with_reducible refine ab (fun _=>?_) (fun _=>?_))|(((with_reducible refine qcx (cR) [] [(0,0),(0,1),(0,2),(0,3),(0,4)] [] [(1,15),(2,16),(3,17),(4,18),(5,19),(6,20),(7,21),(8,22),(9,23)] [(15,hsO (aT 16 17 18 19 20 21 22 23 ⟨⟨zl,zc⟩,zo,zd⟩)),(16,.uniq),(17,.uniq),(18,.uniq),(19,.uniq),(20,.uniq),(21,.uniq),(22,.uniq),(23,.uniq)] (.ptr 15 0 0) [(1,15)] [(2,16),(3,17),(4,18),(5,19),(6,20),(7,21),(8,22),(9,23)] [] ?_);refine nh ?_))|(((with_reducible refine qcx (cP) [] [(0,0),(0,8),(0,9),(0,10),(0,11)] [] [(1,24),(2,25),(3,26),(4,27),(5,28),(6,29),(7,30),(8,31)] [(24,.uniq),(25,.uniq),(26,.uniq),(27,.uniq),(28,.uniq),(29,.uniq),(30,.uniq),(31,.uniq)] (.tup [.agg [.glist 24 16 (zl.map (cnG 25 26 27)),.val (.int .i64 zc)],.glist 28 8 (zo.map (snG 29)),.glist 30 3 (zd.map (hdG 31)),.val (.int .i64 0)]) [] [(1,24),(2,25),(3,26),(4,27),(5,28),(6,29),(7,30),(8,31)] [] ?_);refine nh ?_)))<;>(conv=>whnf))))
  all_goals refine ⟨(),trivial,?_⟩
  all_goals as_aux_lemma =>
   (refine qcv hB [(5,5),(7,6),(12,11),(15,12),(14,21)] [(0,0),(1,1),(2,2),(3,3),(4,4),(8,7),(9,8),(10,9),(11,10),(16,13),(17,14),(18,15),(19,16),(20,17),(21,18),(22,19),(23,20),(24,22),(25,23),(26,24),(27,25),(28,26),(29,27),(30,28),(31,29)] [] ?_;repeat' (with_reducible first|exact trivial|refine And.intro ?_ ?_))
   all_goals (try exact mw)
 ·rintro ⟨⟩ -
  exact qAWs.toF (fn:=Tryz.f15) rfl (by simp only [spine,List.cons_append,List.nil_append,List.append_assoc];rfl) 14 (by simp only [List.drop_succ_cons,List.drop_zero]) hq
theorem pA {p q:Prop} (k:q) (h:Hold q→p:=by first|(intro hQ;refine And.intro ?_ ?_;(focus rfl);(conv=>whnf);(repeat (refine And.intro ?_ ?_;(focus (first|exact bA|(first|exact bl rfl rfl rfl _ rfl|exact aw rfl rfl rfl (aC rfl rfl rfl _) (ay rfl _) (aG rfl _))));(conv=>whnf)));(fail_if_success (with_reducible first|refine And.intro (bz ?_) ?_|refine And.intro (bD ?_) ?_));exact hQ.out)|fail):p:=h ⟨k⟩
theorem hH {p q:Prop} (k:q) (h:Hold q→p:=by first|(intro hQ;refine And.intro ?_ (And.intro ?_ (And.intro ?_ (And.intro ?_ ?_)));(focus kernel_rfl);(focus kernel_rfl);(focus kernel_rfl);(focus kernel_rfl);(conv=>whnf);(repeat (refine And.intro ?_ ?_;(focus (first|exact bA|(first|exact bl rfl rfl rfl _ rfl|exact aw rfl rfl rfl (aC rfl rfl rfl _) (ay rfl _) (aG rfl _))));(conv=>whnf)));(fail_if_success (with_reducible first|refine And.intro (bz ?_) ?_|refine And.intro (bD ?_) ?_));exact hQ.out)|fail):p:=h ⟨k⟩
theorem mt {p:Prop} (h:p:=by first|((first|rfl|exact Ren.vgnil _ _|exact ek rfl (aS rfl rfl rfl _)|exact RowsRen.one (.cons (Ren.glR rfl (aS rfl rfl rfl _)) (.cons (.val _) .nil))|exact RowsRen.one (.cons (Ren.glR rfl (aK rfl rfl rfl _)) (.cons (.val _) .nil))|exact aw rfl rfl rfl (aC rfl rfl rfl _) (ay rfl _) (aG rfl _)|exact RowsRen.one (.cons (Ren.glR rfl (aC rfl rfl rfl _)) (.cons (.val _) .nil))|exact RowsRen.one (.cons (Ren.lR rfl (aC rfl rfl rfl _)) (.cons (.val _) .nil))|exact bf rfl _|(exact ao));done)|fail):p:=h
theorem oJ (l:List Cn) (count ip:Int) (s:Sg) (H:HoI ⟨l,count⟩) (hip:0≤ip∧ip≤4294967295) (hs:sgB s=true) :
 ACallL Tryz.prog 35 [.agg (hoR ⟨l,count⟩),.val (.int .i64 ip),.agg (sgR 0 s)] [.perm] (.ptr 1 0 0) (rhH (Ho.take ⟨l,count⟩ ip s)):=by
 unfold Ho.take
 dsimp only
 cases hf:l.findIdx? (hisB ip s) with
 | some i =>
   obtain ⟨c,hi,hp,hg⟩:=bV hf
   dsimp only
   rw [hg]
   exact nM l count ip s H hs i c hf hi
 | none=>exact mz l count ip s H hip hs hf
theorem o7 (l:List Cn) (count ip:Int) (s:Sg) (H:HoI ⟨l,count⟩) (hip:0≤ip∧ip≤4294967295) (hs:sgB s=true) :
 ACallL Tryz.prog 37 [.agg (hoR ⟨l,count⟩),.val (.int .i64 ip),.agg (sgR 0 s)] [.perm] (hsA (Ho.take ⟨l,count⟩ ip s)) hsH:=by
 unfold Ho.take
 dsimp only
 cases hf:l.findIdx? (hisB ip s) with
 | some i =>
   obtain ⟨c,hi,hp,hg⟩:=bV hf
   dsimp only
   rw [hg]
   exact o0 l count ip s H hip hs i c hf hi hp
 | none=>exact je l count ip s H hip hs hf
theorem rF (l:List Cn) (count lk:Int) (a:Act7) (z:Hs) (hll:l.length≤3000) (ha:a.s.data.length≤30000) (k:Int) (hk:0≤k∧k≤6) (H:HoI ⟨l,count⟩) (hip:am (fit7 ⟨l,count⟩ a).1 4294967295=true) (hs:sgB (fit7 ⟨l,count⟩ a).2=true)
 (hz:Ho.take ⟨l,count⟩ (fit7 ⟨l,count⟩ a).1 (fit7 ⟨l,count⟩ a).2=z) (B:Base) (hB:B.h=ofL [.perm,.perm,.perm,.perm,.perm]) (Q:AExit→List AV→List Own→Prop)
 (hq:qAWs Tryz.prog B ((aZ Tryz.f15).drop 14) Q (okF z.out z.heard) (okG l count z.h.conns z.h.count z.out z.heard)) :
 qAWs Tryz.prog B ((aZ Tryz.f15).drop 13) Q (stF (aR ⟨l,count⟩) lk k) (stG l count a):=by
 rw [(aU _).2 H]
 have hcl : ∀ d∈l,aA d:=fun d hd=>(H.ok d hd).1.I.cnLen
 have cF:=pW ⟨l,count⟩ a (by dsimp only;omega) hcl ha
 have hfd:=l6 ⟨l,count⟩ a
 obtain ⟨⟨ip,s⟩,hf⟩ : ∃ r,fit7 ⟨l,count⟩ a=r:=⟨_,rfl⟩
 rw [hf] at cF hfd hip hs hz
 dsimp only at cF hfd hip hs hz
 have hip2:0≤ip∧ip≤4294967295:=by simpa [am] using hip
 have cP:=o7 l count ip s H hip2 hs
 have cR:=oJ l count ip s H hip2 hs
 have cS:=iO s (by rw [hfd];omega)
 have cE:=lC s s (by rw [hfd];omega)
 rw [decide_eq_true (rfl:s=s)] at cE
 have cW:=dx ip
 rw [hip] at cW
 have cG:=jW s
 rw [hs] at cG
 rw [hz] at cP cR
 have pz:=al a.s.data
 have pb:=al a.b
 have ps:=al s.data
 obtain ⟨⟨zl,zc⟩,zo,zd⟩:=z
 dsimp only at hq
 obtain ⟨n1,n2,n3,n4,n5,n6,n7⟩:(k == 7)=false∧(k == 8)=false∧(k == 9)=false∧(k == 10)=false∧(k == 11)=false∧(k == 12)=false∧(k == 13)=false:=by
  simp only [beq_eq_false_iff_ne];omega
 dsimp only [hoR,hsA,hsH,rhH,aT,sgR,sgG,sgL,alR,alL] at cP cR cF cS cE cG
 dsimp only [stG,alR,alL]
 clear hz hf
 refine qAWs.ofF (fn:=Tryz.f15) rfl (by simp only [spine,List.cons_append,List.nil_append,List.append_assoc];rfl) 13 (by simp only [List.drop_succ_cons,List.drop_zero];rfl) ?_
 refine qAWs.cut af 1 (by simp only [List.take_succ_cons,List.take_zero];rfl) (by simp only [List.drop_succ_cons,List.drop_zero];rfl) (by simp only [aJ];rfl) rfl (X:=Unit) (fun _=>okF zo zd) (fun _=>okG l count zl zc zo zd) (fun _=>True) ?_ ?_
 ·((conv=>whnf);(repeat' ((first|refine gT ?_|((with_reducible refine ai ?_ ?_);focus (simp;done))|((with_reducible refine aj ?_ ?_);focus (simp;done))|(with_reducible refine ab (fun _=>?_) (fun _=>?_))|((with_reducible refine qcp (cW) ?_);refine pT ?_)|(((with_reducible refine qcx (cF) [] [(0,0),(0,1),(0,2),(0,3),(0,4)] [] [(1,15)] [(15,.uniq)] (.tup [.val (.int .i64 ip),.agg (sgG 15 s)]) [] [(1,15)] [] ?_);refine hH ?_))|(((with_reducible refine qcr (cG) [(0,0),(0,15)] [] ?_);refine pA ?_))|(((with_reducible refine qcx (cR) [] [(0,0),(0,1),(0,2),(0,3),(0,4),(0,15)] [] [(1,17),(2,18),(3,19),(4,20),(5,21),(6,22),(7,23),(8,24),(9,25)] [(17,hsO (aT 18 19 20 21 22 23 24 25 ⟨⟨zl,zc⟩,zo,zd⟩)),(18,.uniq),(19,.uniq),(20,.uniq),(21,.uniq),(22,.uniq),(23,.uniq),(24,.uniq),(25,.uniq)] (.ptr 17 0 0) [(1,17)] [(2,18),(3,19),(4,20),(5,21),(6,22),(7,23),(8,24),(9,25)] [] ?_);refine hH ?_))|(((with_reducible refine qcx (cS) [] [(0,0),(0,15)] [] [(1,26)] [(26,.uniq)] (.agg (sgG 26 s)) [] [(1,26)] [] ?_);refine hH ?_))|(((with_reducible refine qcx (cP) [] [(0,0),(0,8),(0,9),(0,10),(0,11),(0,26)] [] [(1,28),(2,29),(3,30),(4,31),(5,32),(6,33),(7,34),(8,35)] [(28,.uniq),(29,.uniq),(30,.uniq),(31,.uniq),(32,.uniq),(33,.uniq),(34,.uniq),(35,.uniq)] (.tup [.agg [.glist 28 16 (zl.map (cnG 29 30 31)),.val (.int .i64 zc)],.glist 32 8 (zo.map (snG 33)),.glist 34 3 (zd.map (hdG 35)),.val (.int .i64 0)]) [] [(1,28),(2,29),(3,30),(4,31),(5,32),(6,33),(7,34),(8,35)] [] ?_);refine hH ?_))|(((with_reducible refine qcr (cE) [(0,0),(0,15),(0,26)] [] ?_);refine pA ?_)))<;>(conv=>whnf))))
  refine ⟨(),trivial,?_⟩
  as_aux_lemma =>
   (refine qcv hB [(5,5),(7,6),(12,11),(17,12),(14,21)] [(0,0),(1,1),(2,2),(3,3),(4,4),(8,7),(9,8),(10,9),(11,10),(18,13),(19,14),(20,15),(21,16),(22,17),(23,18),(24,19),(25,20),(28,22),(29,23),(30,24),(31,25),(32,26),(33,27),(34,28),(35,29)] [] ?_;repeat' (with_reducible first|exact trivial|refine And.intro ?_ ?_))
   all_goals (try exact mt)
 ·rintro ⟨⟩ -
  exact qAWs.toF (fn:=Tryz.f15) rfl (by simp only [spine,List.cons_append,List.nil_append,List.append_assoc];rfl) 14 (by simp only [List.drop_succ_cons,List.drop_zero]) hq
set_option maxHeartbeats 4000000
theorem pZ {h:Ho} {link:Int} {e:Cn→Int} {f:Cn→Stp} (he:au h link e=0) (hf : ∀ c,CnI c→e c=0→CnI (f c).c∧StI c 8200 (f c)):HoI (h.withS link f).h:=by
 obtain ⟨H,h2⟩:=dT (c:=cnZ) he
 unfold Ho.withS
 cases ha:h.at_ link with
 | none=>exact H
 | some i =>
   have h3:=fun c=>(dT (c:=c) he).2
   rw [ha] at h3
   unfold Ho.at_ at ha
   obtain ⟨c,hi,hp,hg⟩:=bV ha
   dsimp only
   rw [hg]
   have hm:=List.mem_of_getElem? hi
   obtain ⟨a,b⟩:=hf c (H.ok c hm).1.I (h3 c (by simpa using hg))
   exact H.put hi a b.e1 b.e2 b.e3 b.e4
section
variable {l:List Cn} {count:Int} {a:Act7} (hll:l.length≤3000) (hc : ∀ c∈l,aA c)
include hll hc
theorem sN (hk:bc a.dw 14=10):js l count a:=by
 by_cases he:au ⟨l,count⟩ (fi ⟨l,count⟩ a) (fun _=>0)=0
 ·have hL:=rC he
  refine .inl ⟨_,wZ (dT (c:=cnZ) he).1 fun c hI _ _ _=>gF hI,gJ hll hc hL fun B hB Q hq=>?_⟩
  rw [hk]
  exact qm l count _ a _ hll hc he rfl B hB Q hq
 ·refine .inr (fW hll hc he fun B hB Q hq=>?_)
  rw [hk]
  exact nV l count _ a hll hc he B hB Q hq
theorem rS (hk:bc a.dw 14=9):js l count a:=by
 by_cases he:au ⟨l,count⟩ (fi ⟨l,count⟩ a) Cn.closeE=0
 ·refine .inl ⟨_,pZ he fun c hI e=>ju hI e,gJ hll hc (sw he) fun B hB Q hq=>?_⟩
  rw [hk]
  exact qY l count _ a _ hll hc he rfl B hB Q hq
 ·refine .inr (fW hll hc he fun B hB Q hq=>?_)
  rw [hk]
  exact oh l count _ a hll hc he B hB Q hq
theorem t6 (hb:a.b.length≤30000) (hk:bc a.dw 14=7∨bc a.dw 14=8):js l count a:=by
 by_cases he:au ⟨l,count⟩ (fi ⟨l,count⟩ a) (fun c=>c.sendE a.b)=0
 ·exact .inl ⟨_,pZ he fun c hI e=>iN hI e,gJ hll hc (u6 he) fun B hB Q hq=>rk l count _ a _ hll hc hb _ hk he rfl B hB Q hq⟩
 ·exact .inr (fW hll hc he fun B hB Q hq=>oU l count _ a hll hc hb _ hk he B hB Q hq)
theorem uJ (hk:bc a.dw 14=11∨bc a.dw 14=12∨bc a.dw 14=13):js l count a:=by
 cases hb:aR ⟨l,count⟩ with
 | true =>
   have H:=(aU _).1 hb
   exact .inl ⟨_,su H,gJ hll hc (ur H) fun B hB Q hq=>sV l count _ a _ _ hk H rfl B hB Q hq⟩
 | false=>exact .inr (fW hll hc (by decide:(1:Int)≠0) fun B hB Q hq=>oA l count _ a hll hc _ hk hb B hB Q hq)
theorem tX (ha:a.s.data.length≤30000) (hk:0≤bc a.dw 14∧bc a.dw 14≤6):js l count a:=by
 cases hb:(aR ⟨l,count⟩ && (am (fit7 ⟨l,count⟩ a).1 4294967295 && sgB (fit7 ⟨l,count⟩ a).2)) with
 | true =>
   rw [Bool.and_eq_true,Bool.and_eq_true] at hb
   obtain ⟨h1,h2,h3⟩:=hb
   have H:=(aU _).1 h1
   have hip:0≤(fit7 ⟨l,count⟩ a).1∧(fit7 ⟨l,count⟩ a).1≤4294967295:=by simpa [am] using h2
   exact .inl ⟨_,sx H hip h3,gJ hll hc (tJ H hip h3) fun B hB Q hq=>rF l count _ a _ hll ha _ hk H h2 h3 rfl B hB Q hq⟩
 | false=>exact .inr (fW hll hc (by decide:(1:Int)≠0) fun B hB Q hq=>oR l count _ a hll hc ha _ hk hb B hB Q hq)
theorem tM (ha:a.s.data.length≤30000) (hb:a.b.length≤30000):js l count a:=by
 have bk:=eU a.dw 14 (by decide)
 by_cases h1:bc a.dw 14=7∨bc a.dw 14=8
 ·exact t6 hll hc hb h1
 by_cases h2:bc a.dw 14=9
 ·exact rS hll hc h2
 by_cases h3:bc a.dw 14=10
 ·exact sN hll hc h3
 by_cases h4:bc a.dw 14=11∨bc a.dw 14=12∨bc a.dw 14=13
 ·exact uJ hll hc h4
 ·exact tX hll hc ha (by omega)
end
set_option maxHeartbeats 8000000
theorem dV {p q:Prop} (k:q) (h:Hold q→p:=by first|(intro hQ;refine And.intro ?_ ?_;(focus rfl);(conv=>whnf);(repeat (refine And.intro ?_ ?_;(focus (first|exact bA|(first|exact bl rfl rfl rfl _ rfl)));(conv=>whnf)));(fail_if_success (with_reducible first|refine And.intro (bz ?_) ?_|refine And.intro (bD ?_) ?_));exact hQ.out)|fail):p:=h ⟨k⟩
theorem fu {p:Prop} (h:p:=by first|((first|rfl|exact RowsRen.one (.cons (Ren.glR rfl (aK rfl rfl rfl _)) (.cons (.val _) .nil))|(simp [w];done)|(exact ao));done)|fail):p:=h
theorem uI (h:Ho) (l:List Act7) (hh:mP h) (hl:jD l):ACallL Tryz.prog 8 [.agg (shR h l)] [.perm] (.val (.bool true)) [.perm]:=by
 have px:=aQ h.conns
 have pz:=pn l
 have hlen:(l.map (alR 0)).length=l.length:=by simp
 have cH:=rg h l hh hl
 obtain ⟨b,hb⟩ : ∃ b,hv17 h l=b:=⟨_,rfl⟩
 rw [hb] at cH
 dsimp only [shR] at cH ⊢
 cases b with
 | true =>
   refine ACallL.of_ev af Tryz.func8 rfl (fun a w=>Tryz.call8 a w) (congrArg Array.toList Tryz.results8) Tryz.ntmps8 fun B hB=>?_
   ((conv=>whnf);(repeat' ((first|refine gT ?_|((with_reducible refine ai ?_ ?_);focus (simp;done))|((with_reducible refine aj ?_ ?_);focus (simp;done))|(with_reducible refine ab (fun _=>?_) (fun _=>?_))|((with_reducible refine qcp (cH) ?_);refine pT ?_))<;>(conv=>whnf))))
   all_goals (refine qcv hB [] [(0,0)] [] ?_;repeat' (with_reducible first|exact trivial|refine And.intro ?_ ?_))
 | false =>
   obtain ⟨h1,h2,h3,h4⟩:=wy hb
   have cC:=ci h (by omega) fun c hc=>(h2 c hc).1
   dsimp only [hoR] at cC
   refine ACallL.of_ev af Tryz.func8 rfl (fun a w=>Tryz.call8 a w) (congrArg Array.toList Tryz.results8) Tryz.ntmps8 fun B hB=>?_
   ((conv=>whnf);(repeat' ((first|refine gT ?_|((with_reducible refine ai ?_ ?_);focus (simp;done))|((with_reducible refine aj ?_ ?_);focus (simp;done))|(with_reducible refine ab (fun _=>?_) (fun _=>?_))|((with_reducible refine qcp (cH) ?_);refine pT ?_)|(((with_reducible refine qco (cC) [] [(0,0)] [] [(1,2),(2,3),(3,4),(4,5)] [(2,.uniq),(3,.uniq),(4,.uniq),(5,.uniq)] (.agg [.glist 2 16 (h.conns.map (cnG 3 4 5)),.val (.int .i64 h.count)]) ?_);refine dV ?_)))<;>(conv=>whnf))))
   refine qAW.loopE af (X:=Nat × Ho) (fun x=>ap 55 [(1,.ptr 1 0 0),(3,.ptr 2 0 0),(4,.val (.int .i64 x.1))]) (fun x=>[.perm,.live ⟨3,27,[shR h l]⟩,.live ⟨2,24,[[.glist 3 16 (x.2.conns.map (cnG 4 5 6)),.val (.int .i64 x.2.count)]]⟩,.uniq,.uniq,.uniq,.uniq]) (fun x=>x.1≤l.length∧x.2.conns.length≤3000 ∧ ∀ c∈x.2.conns,aA c) (fun x=>l.length - x.1) (0,h) ⟨Nat.zero_le _,h1,fun c hc=>(h2 c hc).1⟩ ?_ ?_
   ·have w:=hlen
    (refine qcv hB [(1,1),(6,2)] [(0,0),(2,3),(3,4),(4,5),(5,6)] [] ?_;repeat' (with_reducible first|exact trivial|refine And.intro ?_ ?_))
    all_goals (try exact fu)
   ·rintro E ⟨k,g⟩ ⟨hk,hg1,hg2⟩ hE
    dsimp only at hk hg1 hg2 ⊢
    have w:=IntWalk.i64_in (k + 1) (by omega)
    dsimp only [shR]
    by_cases hlt:k < l.length
    ·by_cases h14:(k:Int) < 14
     ·obtain ⟨a,hxk⟩ : ∃ p,l[k]?=some p:=⟨_,List.getElem?_eq_getElem hlt⟩
      have hx:=h4 _ (List.mem_of_getElem? hxk)
      have hrow:(l.map (alR 0))[(k:Int).toNat]?=some (alR 0 a):=by simp [hxk]
      have pza:=al a.s.data
      have pzb:=al a.b
      have cK:=oz g hg2 (by omega)
      have cM:=pN g (by omega) hg2
      have cCg:=ci g (by omega) hg2
      rcases tM hg1 hg2 hx.1 hx.2 with ⟨y,Hy,cS⟩|cS
      ·unfold stOk at cS
       have hy8:=Hy.len
       have hyc : ∀ c∈y.conns,aA c:=fun c hc=>(Hy.ok c hc).1.I.cnLen
       have cCy:=ci y (by omega) hyc
       cases hm:aR g
       all_goals
        rw [hm] at cK cM
        simp only [cond_true,cond_false] at cK
        dsimp only [hoR,alR,alL] at cK cM cS cCy hrow
        subst hE
        ((conv=>whnf);(repeat' ((first|refine gT ?_|((with_reducible refine ai ?_ ?_);focus (simp [hlt,h14];done))|((with_reducible refine aj ?_ ?_);focus (simp [hlt,h14];done))|(with_reducible refine ab (fun _=>?_) (fun _=>?_))|((with_reducible refine qcp (gK _) ?_);refine pT ?_)|(((with_reducible refine qcr (cK) [(0,0),(0,3),(0,4),(0,5),(0,6)] [] ?_);refine dV ?_))|(((with_reducible refine qcr (cM) [(0,0),(0,3),(0,4),(0,5),(0,6)] [] ?_);refine dV ?_))|(refine qOpen.neb mK rfl rfl rfl ?_)|(refine ak (idxL rfl rfl rfl rfl rfl rfl (by omega) hrow) ?_)|(((with_reducible refine qco (cS) [] [(0,0),(1,3),(2,4),(3,5),(4,6)] [] [(5,7),(6,8),(7,9),(8,10)] [(7,.uniq),(8,.uniq),(9,.uniq),(10,.uniq)] (.tup [.agg [.glist 7 16 (y.conns.map (cnP 8 9 10)),.val (.int .i64 y.count)],.val (.bool true)]) ?_);refine dV ?_))|(((with_reducible refine qco (cCy) [] [(0,0),(0,7),(0,8),(0,9),(0,10)] [] [(1,12),(2,13),(3,14),(4,15)] [(12,.uniq),(13,.uniq),(14,.uniq),(15,.uniq)] (.agg [.glist 12 16 (y.conns.map (cnG 13 14 15)),.val (.int .i64 y.count)]) ?_);refine dV ?_)))<;>(conv=>whnf))))
       all_goals refine ⟨(k + 1,y),⟨by dsimp only;omega,by dsimp only;omega,hyc⟩,by dsimp only;omega,?_⟩
       all_goals as_aux_lemma =>
        (refine qcv hB [(1,1),(2,2)] [(0,0),(12,3),(13,4),(14,5),(15,6)] [] ?_;repeat' (with_reducible first|exact trivial|refine And.intro ?_ ?_))
        all_goals (try exact fu)
      ·unfold qX at cS
       cases hm:aR g
       all_goals
        rw [hm] at cK cM
        simp only [cond_true,cond_false] at cK
        dsimp only [hoR,alR,alL] at cK cM cS cCg hrow
        subst hE
        ((conv=>whnf);(repeat' ((first|refine gT ?_|((with_reducible refine ai ?_ ?_);focus (simp [hlt,h14];done))|((with_reducible refine aj ?_ ?_);focus (simp [hlt,h14];done))|(with_reducible refine ab (fun _=>?_) (fun _=>?_))|((with_reducible refine qcp (gK _) ?_);refine pT ?_)|(((with_reducible refine qcr (cK) [(0,0),(0,3),(0,4),(0,5),(0,6)] [] ?_);refine dV ?_))|(((with_reducible refine qcr (cM) [(0,0),(0,3),(0,4),(0,5),(0,6)] [] ?_);refine dV ?_))|(refine qOpen.neb mK rfl rfl rfl ?_)|(refine ak (idxL rfl rfl rfl rfl rfl rfl (by omega) hrow) ?_)|(((with_reducible refine qco (cS) [] [(0,0),(1,3),(2,4),(3,5),(4,6)] [] [] [] (.tup [.agg [.list 3 16 (g.conns.map (cnP 4 5 6)),.val (.int .i64 g.count)],.val (.bool true)]) ?_);refine dV ?_))|(((with_reducible refine qco (cCg) [] [(0,0),(0,3),(0,4),(0,5),(0,6)] [] [(1,8),(2,9),(3,10),(4,11)] [(8,.uniq),(9,.uniq),(10,.uniq),(11,.uniq)] (.agg [.glist 8 16 (g.conns.map (cnG 9 10 11)),.val (.int .i64 g.count)]) ?_);refine dV ?_)))<;>(conv=>whnf))))
       all_goals refine ⟨(k + 1,g),⟨by dsimp only;omega,hg1,hg2⟩,by dsimp only;omega,?_⟩
       all_goals as_aux_lemma =>
        (refine qcv hB [(1,1),(2,2)] [(0,0),(8,3),(9,4),(10,5),(11,6)] [] ?_;repeat' (with_reducible first|exact trivial|refine And.intro ?_ ?_))
        all_goals (try exact fu)
     ·subst hE
      ((conv=>whnf);(repeat' ((first|refine gT ?_|((with_reducible refine ai ?_ ?_);focus (simp [hlt,h14];done))|((with_reducible refine aj ?_ ?_);focus (simp [hlt,h14];done))|(with_reducible refine ab (fun _=>?_) (fun _=>?_))|((with_reducible refine qcp (mr) ?_);refine pT ?_))<;>(conv=>whnf))))
      all_goals (refine qcv hB [] [(0,0)] [] ?_;repeat' (with_reducible first|exact trivial|refine And.intro ?_ ?_))
    ·subst hE
     ((conv=>whnf);(repeat' ((first|refine gT ?_|((with_reducible refine ai ?_ ?_);focus (simp [hlt];done))|((with_reducible refine aj ?_ ?_);focus (simp [hlt];done))|(with_reducible refine ab (fun _=>?_) (fun _=>?_))|((with_reducible refine qcp (mr) ?_);refine pT ?_))<;>(conv=>whnf))))
     all_goals (refine qcv hB [] [(0,0)] [] ?_;repeat' (with_reducible first|exact trivial|refine And.intro ?_ ?_))
end Go.Proofs.YtceohcbokbalhaaGreat
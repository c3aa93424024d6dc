/- Contracts and plain laws, one behind the other: AhHoY, AhHoZ, AhHoV, SpoilQ, SpoilH, AhiSpl, SpoilHX. Conditions are said at each. -/
import Derived.Test.YtceohcbokbalhaaGreatPkAM
import Derived.Test.YtceohcbokbalhaaGreatPkAI
import Derived.Test.YtceohcbokbalhaaGreatPkAE
import Derived.Test.YtceohcbokbalhaaGreatAhiMap
import Derived.Test.YtceohcbokbalhaaGreatPkAH
namespace Go.Proofs.YtceohcbokbalhaaGreat
open Go.RowKit
set_option linter.unusedVariables false
set_option linter.unusedSimpArgs false
set_option maxRecDepth 100000
set_option maxHeartbeats 4000000
def au (h:Ho) (link:Int) (e:Cn→Int):Int:=bif aR h then h.withE link e else 1
theorem nN (F:FuncId) (eF:Cn→Int) (f:Cn→Stp) (h:Ho) (link:Int) (hc : ∀ c∈h.conns,aA c) (hl:h.conns.length≤100000000)
 (hno : ∀ c∈h.conns,CnI c→eF c≠0→ACallL Tryz.prog F [.agg (cnR 0 c)] [.perm] (stNo (eF c)) [.perm])
 (hok : ∀ c∈h.conns,CnI c→eF c=0→ACallL Tryz.prog F [.agg (cnR 0 c)] [.perm] (stA (f c)) stH∧StI c 8200 (f c)) :
 (au h link eF≠0→ACallL Tryz.prog 53 [.agg (hoR h),.val (.int .i64 link),.clo F []] [.perm] (hwNo (au h link eF)) [.perm]) ∧
 (au h link eF=0→ACallL Tryz.prog 53 [.agg (hoR h),.val (.int .i64 link),.clo F []] [.perm] (hwA (h.withS link f)) hwH):=by
 obtain ⟨l,count⟩:=h
 unfold au
 cases hb:aR ⟨l,count⟩ with
 | false =>
   rw [cond_false]
   exact ⟨fun _=>uj F ⟨l,count⟩ link hc hl hb,fun h=>absurd h (by decide)⟩
 | true =>
   rw [cond_true]
   have H:=(aU _).1 hb
   cases ht:bW l link with
   | false =>
     have ha:=pF (count:=count) H.up ht
     unfold Ho.withE
     rw [ha]
     exact ⟨fun _=>uK F l count link H ht,fun h=>absurd (show (3:Int)=0 from h) (by decide)⟩
   | true =>
     obtain ⟨c,hci,hlk,ha⟩:=pg (count:=count) H.up ht
     have hm:=List.mem_of_getElem? hci
     have hI:=(H.ok c hm).1.I
     have hg:l.getD (posC l link) cnZ=c:=by simp [List.getD,hci]
     unfold Ho.withE Ho.withS
     rw [ha]
     dsimp only
     rw [hg]
     refine ⟨fun he=>tD F l count link (eF c) H c ht hci (by simpa using he) (hno c hm hI he),fun he=>?_⟩
     obtain ⟨k1,k2⟩:=hok c hm hI he
     exact xz F l count link H c ht hci (f c) (Nat.le_trans k2.cnt (by decide)) k2.e2 k1
theorem mj (F:FuncId) (xs:List Int) (eF:Cn→Int) (f:Cn→Stp) (h:Ho) (link:Int) (hc : ∀ c∈h.conns,aA c) (hl:h.conns.length≤100000000)
 (hno : ∀ c∈h.conns,CnI c→eF c≠0→ACallL Tryz.prog F [.agg (cnR 0 c),.ptr 1 0 0] [.perm,bxB xs,.perm] (stNo (eF c)) [.perm,bxB xs,.perm])
 (hok : ∀ c∈h.conns,CnI c→eF c=0→ACallL Tryz.prog F [.agg (cnR 0 c),.ptr 1 0 0] [.perm,bxB xs,.perm] (.tup [.agg (cnG 3 4 5 (f c).c),.glist 6 7 ((f c).out.map (sgG 7)),.val (.int .i64 0)]) [.perm,bxB xs,.perm,.uniq,.uniq,.uniq,.uniq,.uniq]∧StI c 8200 (f c)) :
 (au h link eF≠0→ACallL Tryz.prog 53 [.agg (hoR h),.val (.int .i64 link),.clo F [.ptr 1 0 0]] [.perm,bxB xs,.perm] (hwNo (au h link eF)) [.perm,bxB xs,.perm]) ∧
 (au h link eF=0→ACallL Tryz.prog 53 [.agg (hoR h),.val (.int .i64 link),.clo F [.ptr 1 0 0]] [.perm,bxB xs,.perm] (hwB (h.withS link f)) (hwHB xs)):=by
 obtain ⟨l,count⟩:=h
 unfold au
 cases hb:aR ⟨l,count⟩ with
 | false =>
   rw [cond_false]
   exact ⟨fun _=>sS F xs ⟨l,count⟩ link hc hl hb,fun h=>absurd h (by decide)⟩
 | true =>
   rw [cond_true]
   have H:=(aU _).1 hb
   cases ht:bW l link with
   | false =>
     have ha:=pF (count:=count) H.up ht
     unfold Ho.withE
     rw [ha]
     exact ⟨fun _=>th F xs l count link H ht,fun h=>absurd (show (3:Int)=0 from h) (by decide)⟩
   | true =>
     obtain ⟨c,hci,hlk,ha⟩:=pg (count:=count) H.up ht
     have hm:=List.mem_of_getElem? hci
     have hI:=(H.ok c hm).1.I
     have hg:l.getD (posC l link) cnZ=c:=by simp [List.getD,hci]
     unfold Ho.withE Ho.withS
     rw [ha]
     dsimp only
     rw [hg]
     refine ⟨fun he=>sR F xs l count link (eF c) H c ht hci (by simpa using he) (hno c hm hI he),fun he=>?_⟩
     obtain ⟨k1,k2⟩:=hok c hm hI he
     exact wO F xs l count link H c ht hci (f c) (Nat.le_trans k2.cnt (by decide)) k2.e2 k1
theorem mY (c:Cn) (xs:List Int) (hI:CnI c) (hx:xs.length≤100000000) (he:c.sendE xs≠0):ACallL Tryz.prog 54 [.agg (cnR 0 c),.ptr 1 0 0] [.perm,bxB xs,.perm] (stNo (c.sendE xs)) [.perm,bxB xs,.perm]:=by
 have cS:=qc c xs hI.cnLen hx (.inr he)
 rw [errB,(bh _).2 hI,cond_true] at cS
 have p1:=al c.out
 have p2:=ar c.parts
 dsimp only [cnR,cnL] at cS ⊢
 refine ACallL.of_ev af Tryz.func54 rfl (fun a w=>Tryz.call54 a w) (congrArg Array.toList Tryz.results54) Tryz.ntmps54 fun B hB=>?_
 ((conv=>whnf);(repeat' ((first|refine gT ?_|((with_reducible refine ai ?_ ?_);focus (simp;done))|((with_reducible refine aj ?_ ?_);focus (simp;done))|(with_reducible refine ab (fun _=>?_) (fun _=>?_))|(((with_reducible refine qcr (cS) [(0,0),(0,2)] [] ?_);refine sT ?_)))<;>(conv=>whnf))))
 (refine qcv hB [(1,1)] [(0,0),(2,2)] [] ?_;repeat' (with_reducible first|exact trivial|refine And.intro ?_ ?_))
 all_goals first|rfl|(exact ao)
theorem pI (c:Cn) (xs:List Int) (hI:CnI c) (he:c.sendE xs=0):ACallL Tryz.prog 54 [.agg (cnR 0 c),.ptr 1 0 0] [.perm,bxB xs,.perm] (.tup [.agg (cnG 3 4 5 (c.sends xs).c),.glist 6 7 ((c.sends xs).out.map (sgG 7)),.val (.int .i64 0)]) [.perm,bxB xs,.perm,.uniq,.uniq,.uniq,.uniq,.uniq]:=by
 have cS:=sv c xs ((bh _).2 hI) he
 have p1:=al c.out
 have p2:=ar c.parts
 obtain ⟨y,hy⟩ : ∃ y,c.sends xs=y:=⟨_,rfl⟩
 rw [hy] at cS ⊢
 dsimp only [cnR,cnL,stA] at cS ⊢
 refine ACallL.of_ev af Tryz.func54 rfl (fun a w=>Tryz.call54 a w) (congrArg Array.toList Tryz.results54) Tryz.ntmps54 fun B hB=>?_
 ((conv=>whnf);(repeat' ((first|refine gT ?_|((with_reducible refine ai ?_ ?_);focus (simp;done))|((with_reducible refine aj ?_ ?_);focus (simp;done))|(with_reducible refine ab (fun _=>?_) (fun _=>?_))|(((with_reducible refine qco (cS) [] [(0,0),(0,2)] [] [(1,5),(2,6),(3,7),(4,8),(5,9)] [(5,.uniq),(6,.uniq),(7,.uniq),(8,.uniq),(9,.uniq)] (.tup [.agg (cnG 5 6 7 y.c),.glist 8 7 (y.out.map (sgG 9)),.val (.int .i64 0)]) ?_);refine sT ?_)))<;>(conv=>whnf))))
 (refine qcv hB [(1,1)] [(0,0),(2,2),(5,3),(6,4),(7,5),(8,6),(9,7)] [] ?_;repeat' (with_reducible first|exact trivial|refine And.intro ?_ ?_))
 all_goals first|rfl|exact aH _|exact aI rfl _|exact bq rfl _|(exact ao)|trace_state
theorem o8 (h:Ho) (link:Int) (xs:List Int) (hc : ∀ c∈h.conns,aA c) (hl:h.conns.length≤100000000) (hx:xs.length≤100000000) (he:au h link (fun c=>c.sendE xs)≠0) :
 ACallL Tryz.prog 24 [.agg (hoR h),.val (.int .i64 link),bL 0 xs] [.perm] (hwNo (au h link (fun c=>c.sendE xs))) [.perm]:=by
 have cW:=(mj 54 xs (fun c=>c.sendE xs) (fun c=>c.sends xs) h link hc hl (fun c _ hI e=>mY c xs hI hx e) (fun c _ hI e=>⟨pI c xs hI e,(iN hI e).2⟩)).1 he
 have px:=aQ h.conns
 have pz:=al xs
 obtain ⟨e,hee⟩ : ∃ e,au h link (fun c=>c.sendE xs)=e:=⟨_,rfl⟩
 rw [hee] at cW ⊢
 dsimp only [hoR] at cW ⊢
 refine ACallL.of_ev af Tryz.func24 rfl (fun a w=>Tryz.call24 a w) (congrArg Array.toList Tryz.results24) Tryz.ntmps24 fun B hB=>?_
 ((conv=>whnf);(repeat' ((first|refine gT ?_|((with_reducible refine ai ?_ ?_);focus (simp;done))|((with_reducible refine aj ?_ ?_);focus (simp;done))|(with_reducible refine ab (fun _=>?_) (fun _=>?_))|(((with_reducible refine qco (cW) [(1,2)] [(0,0),(2,0)] [] [] [(2,.live ⟨1,37,[[bL 0 xs]]⟩)] (hwNo e) ?_);refine sT ?_)))<;>(conv=>whnf))))
 (refine qcv hB [] [(0,0)] [] ?_;repeat' (with_reducible first|exact trivial|refine And.intro ?_ ?_))
theorem qD (h:Ho) (link:Int) (xs:List Int) (hc : ∀ c∈h.conns,aA c) (hl:h.conns.length≤100000000) (hx:xs.length≤100000000) (he:au h link (fun c=>c.sendE xs)=0) :
 ACallL Tryz.prog 24 [.agg (hoR h),.val (.int .i64 link),bL 0 xs] [.perm] (hwA (h.withS link (fun c=>c.sends xs))) hwH:=by
 have cW:=(mj 54 xs (fun c=>c.sendE xs) (fun c=>c.sends xs) h link hc hl (fun c _ hI e=>mY c xs hI hx e) (fun c _ hI e=>⟨pI c xs hI e,(iN hI e).2⟩)).2 he
 have px:=aQ h.conns
 have pz:=al xs
 obtain ⟨y,hy⟩ : ∃ y,h.withS link (fun c=>c.sends xs)=y:=⟨_,rfl⟩
 rw [hy] at cW ⊢
 dsimp only [hoR] at cW ⊢
 refine ACallL.of_ev af Tryz.func24 rfl (fun a w=>Tryz.call24 a w) (congrArg Array.toList Tryz.results24) Tryz.ntmps24 fun B hB=>?_
 ((conv=>whnf);(repeat' ((first|refine gT ?_|((with_reducible refine ai ?_ ?_);focus (simp;done))|((with_reducible refine aj ?_ ?_);focus (simp;done))|(with_reducible refine ab (fun _=>?_) (fun _=>?_))|(((with_reducible refine qco (cW) [(1,2)] [(0,0),(2,0)] [] [(3,4),(4,5),(5,6),(6,7),(7,8),(8,9)] [(2,.live ⟨1,37,[[bL 0 xs]]⟩),(4,.uniq),(5,.uniq),(6,.uniq),(7,.uniq),(8,.uniq),(9,.uniq)] (.tup [.agg [.glist 4 16 (y.h.conns.map (cnG 5 6 7)),.val (.int .i64 y.h.count)],.glist 8 8 (y.out.map (snG 9)),.val (.int .i64 0)]) ?_);refine sT ?_)))<;>(conv=>whnf))))
 (refine qcv hB [] [(0,0),(4,1),(5,2),(6,3),(7,4),(8,5),(9,6)] [] ?_;repeat' (with_reducible first|exact trivial|refine And.intro ?_ ?_))
 all_goals first|rfl|exact aK rfl rfl rfl _|exact bf rfl _|(exact ao)|trace_state
theorem nB (eF:Cn→Int) (f:Cn→Stp) (h:Ho) (link:Int) (cW:(au h link eF≠0→ACallL Tryz.prog 53 [.agg (hoR h),.val (.int .i64 link),.clo 57 []] [.perm] (hwNo (au h link eF)) [.perm])∧(au h link eF=0→ACallL Tryz.prog 53 [.agg (hoR h),.val (.int .i64 link),.clo 57 []] [.perm] (hwA (h.withS link f)) hwH)) :
 (au h link eF≠0→ACallL Tryz.prog 27 [.agg (hoR h),.val (.int .i64 link)] [.perm] (hwNo (au h link eF)) [.perm])∧(au h link eF=0→ACallL Tryz.prog 27 [.agg (hoR h),.val (.int .i64 link)] [.perm] (hwA (h.withS link f)) hwH):=by
 have px:=aQ h.conns
 obtain ⟨c1,c2⟩:=cW
 refine ⟨fun he=>?_,fun he=>?_⟩
 ·have cW:=c1 he
  obtain ⟨e,hee⟩ : ∃ e,au h link eF=e:=⟨_,rfl⟩
  rw [hee] at cW ⊢
  dsimp only [hoR] at cW ⊢
  refine ACallL.of_ev af Tryz.func27 rfl (fun a w=>Tryz.call27 a w) (congrArg Array.toList Tryz.results27) Tryz.ntmps27 fun B hB=>?_
  ((conv=>whnf);(repeat' ((first|refine gT ?_|((with_reducible refine ai ?_ ?_);focus (simp;done))|((with_reducible refine aj ?_ ?_);focus (simp;done))|(with_reducible refine ab (fun _=>?_) (fun _=>?_))|(((with_reducible refine qcr (cW) [(0,0)] [] ?_);refine sT ?_)))<;>(conv=>whnf))))
  (refine qcv hB [] [(0,0)] [] ?_;repeat' (with_reducible first|exact trivial|refine And.intro ?_ ?_))
 ·have cW:=c2 he
  obtain ⟨y,hy⟩ : ∃ y,h.withS link f=y:=⟨_,rfl⟩
  rw [hy] at cW ⊢
  dsimp only [hoR] at cW ⊢
  refine ACallL.of_ev af Tryz.func27 rfl (fun a w=>Tryz.call27 a w) (congrArg Array.toList Tryz.results27) Tryz.ntmps27 fun B hB=>?_
  ((conv=>whnf);(repeat' ((first|refine gT ?_|((with_reducible refine ai ?_ ?_);focus (simp;done))|((with_reducible refine aj ?_ ?_);focus (simp;done))|(with_reducible refine ab (fun _=>?_) (fun _=>?_))|(((with_reducible refine qco (cW) [] [(0,0)] [] [(1,3),(2,4),(3,5),(4,6),(5,7),(6,8)] [(3,.uniq),(4,.uniq),(5,.uniq),(6,.uniq),(7,.uniq),(8,.uniq)] (.tup [.agg [.glist 3 16 (y.h.conns.map (cnG 4 5 6)),.val (.int .i64 y.h.count)],.glist 7 8 (y.out.map (snG 8)),.val (.int .i64 0)]) ?_);refine sT ?_)))<;>(conv=>whnf))))
  (refine qcv hB [] [(0,0),(3,1),(4,2),(5,3),(6,4),(7,5),(8,6)] [] ?_;repeat' (with_reducible first|exact trivial|refine And.intro ?_ ?_))
  all_goals first|rfl|exact aK rfl rfl rfl _|exact bf rfl _|(exact ao)|trace_state
theorem nI (eF:Cn→Int) (f:Cn→Stp) (h:Ho) (link:Int) (cW:(au h link eF≠0→ACallL Tryz.prog 53 [.agg (hoR h),.val (.int .i64 link),.clo 59 []] [.perm] (hwNo (au h link eF)) [.perm])∧(au h link eF=0→ACallL Tryz.prog 53 [.agg (hoR h),.val (.int .i64 link),.clo 59 []] [.perm] (hwA (h.withS link f)) hwH)) :
 (au h link eF≠0→ACallL Tryz.prog 29 [.agg (hoR h),.val (.int .i64 link)] [.perm] (hwNo (au h link eF)) [.perm])∧(au h link eF=0→ACallL Tryz.prog 29 [.agg (hoR h),.val (.int .i64 link)] [.perm] (hwA (h.withS link f)) hwH):=by
 have px:=aQ h.conns
 obtain ⟨c1,c2⟩:=cW
 refine ⟨fun he=>?_,fun he=>?_⟩
 ·have cW:=c1 he
  obtain ⟨e,hee⟩ : ∃ e,au h link eF=e:=⟨_,rfl⟩
  rw [hee] at cW ⊢
  dsimp only [hoR] at cW ⊢
  refine ACallL.of_ev af Tryz.func29 rfl (fun a w=>Tryz.call29 a w) (congrArg Array.toList Tryz.results29) Tryz.ntmps29 fun B hB=>?_
  ((conv=>whnf);(repeat' ((first|refine gT ?_|((with_reducible refine ai ?_ ?_);focus (simp;done))|((with_reducible refine aj ?_ ?_);focus (simp;done))|(with_reducible refine ab (fun _=>?_) (fun _=>?_))|(((with_reducible refine qcr (cW) [(0,0)] [] ?_);refine sT ?_)))<;>(conv=>whnf))))
  (refine qcv hB [] [(0,0)] [] ?_;repeat' (with_reducible first|exact trivial|refine And.intro ?_ ?_))
 ·have cW:=c2 he
  obtain ⟨y,hy⟩ : ∃ y,h.withS link f=y:=⟨_,rfl⟩
  rw [hy] at cW ⊢
  dsimp only [hoR] at cW ⊢
  refine ACallL.of_ev af Tryz.func29 rfl (fun a w=>Tryz.call29 a w) (congrArg Array.toList Tryz.results29) Tryz.ntmps29 fun B hB=>?_
  ((conv=>whnf);(repeat' ((first|refine gT ?_|((with_reducible refine ai ?_ ?_);focus (simp;done))|((with_reducible refine aj ?_ ?_);focus (simp;done))|(with_reducible refine ab (fun _=>?_) (fun _=>?_))|(((with_reducible refine qco (cW) [] [(0,0)] [] [(1,3),(2,4),(3,5),(4,6),(5,7),(6,8)] [(3,.uniq),(4,.uniq),(5,.uniq),(6,.uniq),(7,.uniq),(8,.uniq)] (.tup [.agg [.glist 3 16 (y.h.conns.map (cnG 4 5 6)),.val (.int .i64 y.h.count)],.glist 7 8 (y.out.map (snG 8)),.val (.int .i64 0)]) ?_);refine sT ?_)))<;>(conv=>whnf))))
  (refine qcv hB [] [(0,0),(3,1),(4,2),(5,3),(6,4),(7,5),(8,6)] [] ?_;repeat' (with_reducible first|exact trivial|refine And.intro ?_ ?_))
  all_goals first|rfl|exact aK rfl rfl rfl _|exact bf rfl _|(exact ao)|trace_state
theorem jV (h:Ho) (link:Int) (hc : ∀ c∈h.conns,aA c) (hl:h.conns.length≤100000000) :
 (au h link Cn.closeE≠0→ACallL Tryz.prog 27 [.agg (hoR h),.val (.int .i64 link)] [.perm] (hwNo (au h link Cn.closeE)) [.perm])∧(au h link Cn.closeE=0→ACallL Tryz.prog 27 [.agg (hoR h),.val (.int .i64 link)] [.perm] (hwA (h.withS link Cn.closes)) hwH) :=
 nB _ _ h link (nN _ _ _ h link hc hl (fun c _ hI e=>by
  have:=oC c hI.cnLen (.inr e)
  rwa [errB,(bh _).2 hI,cond_true] at this) (fun c _ hI e=>⟨qj c ((bh _).2 hI) e,(ju hI e).2⟩))
theorem jP (h:Ho) (link:Int) (hc : ∀ c∈h.conns,aA c) (hl:h.conns.length≤100000000) :
 (au h link (fun _=>0)≠0→ACallL Tryz.prog 29 [.agg (hoR h),.val (.int .i64 link)] [.perm] (hwNo (au h link (fun _=>0))) [.perm])∧(au h link (fun _=>0)=0→ACallL Tryz.prog 29 [.agg (hoR h),.val (.int .i64 link)] [.perm] (hwA (h.withS link Cn.aborts)) hwH) :=
 nI _ _ h link (nN _ _ _ h link hc hl (fun c _ hI e=>absurd rfl e) (fun c _ hI e=>⟨qP c ((bh _).2 hI),(gF hI).2⟩))
theorem oz (h:Ho) (hc : ∀ c∈h.conns,aA c) (hl:h.conns.length≤100000000):ACallL Tryz.prog 13 [.agg (hoR h)] [.perm] (.val (.int .i64 (bif aR h then 0 else 1))) [.perm]:=by
 have px:=aQ h.conns
 have cM:=bB h hc hl
 obtain ⟨b,hb⟩ : ∃ b,aR h=b:=⟨_,rfl⟩
 rw [hb] at cM ⊢
 dsimp only [hoR] at cM ⊢
 cases b
 all_goals
  refine ACallL.of_ev af Tryz.func13 rfl (fun a w=>Tryz.call13 a w) (congrArg Array.toList Tryz.results13) Tryz.ntmps13 fun B hB=>?_
  ((conv=>whnf);(repeat' ((first|refine gT ?_|((with_reducible refine ai ?_ ?_);focus (simp;done))|((with_reducible refine aj ?_ ?_);focus (simp;done))|(with_reducible refine ab (fun _=>?_) (fun _=>?_))|((with_reducible refine qcp (cM) ?_);refine pT ?_))<;>(conv=>whnf))))
  (refine qcv hB [] [(0,0)] [] ?_;repeat' (with_reducible first|exact trivial|refine And.intro ?_ ?_))
  all_goals rfl
theorem oK (h:Ho) (hc : ∀ c∈h.conns,aA c) (hl:h.conns.length≤100000000) (hno:aR h=false):ACallL Tryz.prog 31 [.agg (hoR h)] [.perm] (.tup [noHo,.val (.slice none 0 0),.val (.slice none 0 0),.val (.int .i64 1)]) [.perm]:=by
 have px:=aQ h.conns
 have cM:=bB h hc hl
 rw [hno] at cM
 dsimp only [hoR] at cM ⊢
 refine ACallL.of_ev af Tryz.func31 rfl (fun a w=>Tryz.call31 a w) (congrArg Array.toList Tryz.results31) Tryz.ntmps31 fun B hB=>?_
 ((conv=>whnf);(repeat' ((first|refine gT ?_|((with_reducible refine ai ?_ ?_);focus (simp;done))|((with_reducible refine aj ?_ ?_);focus (simp;done))|(with_reducible refine ab (fun _=>?_) (fun _=>?_))|((with_reducible refine qcp (cM) ?_);refine pT ?_))<;>(conv=>whnf))))
 (refine qcv hB [] [(0,0)] [] ?_;repeat' (with_reducible first|exact trivial|refine And.intro ?_ ?_))
def kH (c:Cn):List Cn × List (Int × Sg) × List Hd:=(bif c.ticks.c.st == 0 then [] else [c.ticks.c],toS c.ip c.ticks.out,bif c.ticks.c.st == 0 then [⟨c.link,[],true⟩] else [])
theorem kA : ∀ (l:List Cn) (c:Cn),aq (l ++ [c])=((aq l).1 ++ (kH c).1,(aq l).2.1 ++ (kH c).2.1,(aq l).2.2 ++ (kH c).2.2)
 | [],c=>by
   unfold aq kH
   dsimp only [List.nil_append]
   unfold aq
   cases (c.ticks.c.st == 0)<;>simp
 | d::l,c=>by
   rw [List.cons_append,aq,kA l c]
   conv=>rhs;rw [aq]
   dsimp only
   cases (d.ticks.c.st == 0)<;>simp
theorem gu : ∀ (l:List Cn),(∀ c∈l,CnI c)→(aq l).2.1.length≤8200 * l.length
 | [],_=>by simp [aq]
 | c::l,h=>by
   have ih:=gu l (fun d hd=>h d (by simp [hd]))
   have hk:=(fm (h c (by simp))).2.cnt
   unfold aq
   dsimp only
   rw [List.length_append]
   unfold toS
   rw [List.length_map,List.length_cons]
   omega
theorem eQ : ∀ (l:List Cn),(∀ x∈(aq l).2.2,x.data=[])∧(aq l).2.2.length≤l.length
 | []=>by simp [aq]
 | c::l=>by
   obtain ⟨h1,h2⟩:=eQ l
   unfold aq
   dsimp only
   cases (c.ticks.c.st == 0)
   ·exact ⟨h1,by simp;omega⟩
   ·refine ⟨fun x hx=>?_,by simp;omega⟩
    rcases List.mem_cons.1 hx with rfl|hx
    ·rfl
    ·exact h1 x hx
abbrev hdN (x:Hd):List AV:=[.val (.int .i64 x.link),.val (.slice none 0 0),.val (.bool x.fin)]
section
variable {L I F:Prs} {h:Hp}
theorem ng (l:List Hd):RowsRen (qOf L I F) h (l.map hdN) (l.map hdN):=RowsRen.mapF l _ _ fun x _ => .cons (.val _) (.cons (.val _) (.cons (.val _) .nil))
theorem xJ {r:Nat} (l:List Hd) (hl : ∀ x∈l,x.data=[]):RowsRen (qOf L I F) h (l.map hdN) (l.map (hdG r)):=RowsRen.mapF l _ _ fun x hx => .cons (.val _) (.cons (by rw [hl x hx];exact Ren.vgnil _ _) (.cons (.val _) .nil))
theorem xg {r:Nat} (n:Int):RowsRen (qOf L I F) h [[.val (.slice none 0 0),.val (.int .i64 n)]] [[.glist r 16 [],.val (.int .i64 n)]]:=RowsRen.one (.cons (Ren.vgnil _ _) (.cons (.val _) .nil))
theorem qb {r r2 r' : Nat} (h0:I.has r r' = true) (h1:I.has r2 r' = true) (l l2:List (Int × Sg)):RowsRen (qOf L I F) h (l.map (snG r) ++ l2.map (snG r2)) ((l ++ l2).map (snG r')) :=
 RowsRen.castR (by rw [List.map_append]) (RowsRen.app (bf h0 l) (bf h1 l2))
theorem xk {b b' o p d o2 p2 d2 o' p' d' : Nat} (n:Int) (hb:I.has b b' = true) (h0:I.has o o' = true) (h1:I.has p p' = true) (h2:I.has d d' = true) (g0:I.has o2 o' = true) (g1:I.has p2 p' = true) (g2:I.has d2 d' = true) (l:List Cn) (c:Cn) :
 RowsRen (qOf L I F) h [[.glist b 16 (l.map (cnG o p d) ++ [cnG o2 p2 d2 c]),.val (.int .i64 n)]] [[.glist b' 16 ((l ++ [c]).map (cnG o' p' d')),.val (.int .i64 n)]]:=by
 obtain ⟨a,bb,cc⟩:=(aK (L:=L) (I:=I) (F:=F) (h:=h) h0 h1 h2 l).app (RowsRen.one (fb (L:=L) (I:=I) (F:=F) (h:=h) g0 g1 g2 c))
 have e:(l ++ [c]).map (cnG o' p' d')=l.map (cnG o' p' d') ++ [cnG o' p' d' c]:=by rw [List.map_append];rfl
 rw [← e] at a bb cc
 exact RowsRen.one (.cons (.glist _ _ _ _ _ ((Prs.has_iff I _ _).1 hb) a bb cc) (.cons (.val _) .nil))
end
theorem q8 (l:List Cn) (count:Int) (H:HoI ⟨l,count⟩):ACallL Tryz.prog 31 [.agg (hoR ⟨l,count⟩)] [.perm] (hsA (Ho.tick ⟨l,count⟩)) hsH:=by
 have px:=aQ l
 have hl:=H.len
 dsimp only at hl
 have hIs : ∀ d∈l,CnI d:=fun d hd=>(H.ok d hd).1.I
 have hcl : ∀ d∈l,aA d:=fun d hd=>(hIs d hd).cnLen
 have cM:=bB ⟨l,count⟩ hcl (by dsimp only;omega)
 rw [(aU _).2 H] at cM
 have ll:(l.map (cnR 0)).length=l.length:=by simp
 obtain ⟨hh1,hh2⟩:=eQ l
 unfold Ho.tick
 dsimp only [hoR,hsA] at cM ⊢
 refine ACallL.of_ev af Tryz.func31 rfl (fun a w=>Tryz.call31 a w) (congrArg Array.toList Tryz.results31) Tryz.ntmps31 fun B hB=>?_
 ((conv=>whnf);(repeat' ((first|refine gT ?_|((with_reducible refine ai ?_ ?_);focus (simp;done))|((with_reducible refine aj ?_ ?_);focus (simp;done))|(with_reducible refine ab (fun _=>?_) (fun _=>?_))|((with_reducible refine qcp (cM) ?_);refine pT ?_))<;>(conv=>whnf))))
 refine qAW.loopE af (X:=Nat) (fun k=>ap 56 [(1,.ptr 1 0 0),(2,.ptr 2 0 0),(3,.glist 7 8 ((aq (l.take k)).2.1.map (snG 8))),(4,.glist 9 3 ((aq (l.take k)).2.2.map hdN)),(5,.val (.int .i64 0)),(19,.list 0 16 (l.map (cnR 0))),(20,.val (.int .i64 (l.map (cnR 0)).length)),(21,.val (.int .i64 k))])
  (fun k=>[.perm,.live ⟨2,24,[hoR ⟨l,count⟩]⟩,.live ⟨2,24,[[.glist 3 16 ((aq (l.take k)).1.map (cnG 4 5 6)),.val (.int .i64 count)]]⟩,.uniq,.uniq,.uniq,.uniq,.uniq,.uniq,.uniq])
  (fun k=>k≤l.length) (fun k=>l.length - k) 0 (Nat.zero_le _) ?_ ?_
 ·(refine qcv hB [(1,1),(2,2)] [(0,0)] [] ?_;repeat' (with_reducible first|exact trivial|refine And.intro ?_ ?_))
  all_goals first|rfl|exact xg _|(exact ao)|trace_state
 ·rintro E k hk hE
  by_cases hlt:k < l.length
  ·obtain ⟨c,hc⟩ : ∃ p,l[k]?=some p:=⟨_,List.getElem?_eq_getElem hlt⟩
   have hrow:(l.map (cnR 0))[(k:Int).toNat]?=some (cnR 0 c):=by simp [hc]
   have p1:=al c.out
   have p2:=ar c.parts
   have w:=IntWalk.i64_in (k + 1) (by omega)
   have hI:=hIs c (List.mem_of_getElem? hc)
   have hgo:=kA (l.take k) c
   rw [← bj hc] at hgo
   have ho1:=gu (l.take k) (fun d hd=>hIs d (List.mem_of_mem_take hd))
   obtain ⟨-, ho2⟩:=eQ (l.take k)
   have ho3:=fB (l.take k)
   have lk:(l.take k).length=k:=by simp;omega
   rw [lk] at ho1 ho2 ho3
   unfold kH at hgo
   dsimp only at hgo
   have cT:=rW c ((bh _).2 hI)
   have hyl:=(fm hI).2.cnt
   obtain ⟨y,hy⟩ : ∃ y,c.ticks=y:=⟨_,rfl⟩
   rw [hy] at hgo cT hyl
   obtain ⟨⟨A,S,D⟩,hT⟩ : ∃ r,aq (l.take k)=r:=⟨_,rfl⟩
   rw [hT] at hgo ho1 ho2 ho3 ⊢
   dsimp only at hgo ho1 ho2 ho3 ⊢
   have cTo:=to_l c.ip y.out (by omega)
   have hsz1:(S.map (snG 8)).length + ((toS c.ip y.out).map (snG 15)).length≤100000:=by unfold toS;simp;omega
   have hsz2:(D.map hdN).length + 1≤100:=by simp;omega
   have hsz3:(A.map (cnG 4 5 6)).length + 1≤100:=by simp;omega
   dsimp only [hoR,cnR,cnL,stA] at cT ⊢
   cases hs:(y.c.st == 0) with
   | true =>
     rw [hs,cond_true,cond_true,List.append_nil] at hgo
     subst hE
     ((conv=>whnf);(repeat' ((first|refine gT ?_|((with_reducible refine ai ?_ ?_);focus (simp [hlt];done))|((with_reducible refine aj ?_ ?_);focus (simp [hlt];done))|(with_reducible refine ab (fun _=>?_) (fun _=>?_))|(refine ak (idxL rfl rfl rfl rfl rfl rfl (by omega) hrow) ?_)|(((with_reducible refine qco (cT) [] [(0,0)] [] [(1,11),(2,12),(3,13),(4,14),(5,15)] [(11,.uniq),(12,.uniq),(13,.uniq),(14,.uniq),(15,.uniq)] (.tup [.agg (cnG 11 12 13 y.c),.glist 14 7 (y.out.map (sgG 15)),.val (.int .i64 0)]) ?_);refine sT ?_))|(((with_reducible refine qco (cTo) [] [(0,0),(1,14),(2,15)] [] [(3,17)] [(17,.uniq)] (.glist 17 8 ((toS c.ip y.out).map (snG 15))) ?_);refine sT ?_))|(refine ak (apG (nb:=80) rfl rfl rfl rfl rfl rfl rfl rfl rfl rfl ⟨Nat.zero_lt_succ _,Nat.zero_lt_succ _,rfl⟩ (nO _ _) (Nat.le_trans (Nat.mul_le_mul_right _ hsz1) (by decide))) ?_)|(refine ak (apG (nb:=40) rfl rfl rfl rfl rfl rfl rfl rfl rfl rfl ⟨Nat.zero_lt_succ _,Nat.zero_lt_succ _,rfl⟩ rfl (Nat.le_trans (Nat.mul_le_mul_right _ hsz2) (by decide))) ?_))<;>(conv=>whnf))))
     refine ⟨k + 1,by omega,by omega,?_⟩
     dsimp only
     rw [hgo]
     dsimp only
     (refine qcv hB [(1,1),(2,2)] [(0,0),(3,3),(4,4),(5,5),(6,6),(18,7),(8,8),(15,8),(20,9)] [] ?_;repeat' (with_reducible first|exact trivial|refine And.intro ?_ ?_))
     all_goals first|rfl|(simp [w];done)|exact qb rfl rfl _ _|exact vo _ rfl rfl rfl rfl _|exact RowsRen.castR (by rw [List.map_append]) (RowsRen.app (ng D) (ng [⟨c.link,[],true⟩]))|(exact ao)|trace_state
   | false =>
     rw [hs,cond_false,cond_false,List.append_nil] at hgo
     subst hE
     ((conv=>whnf);(repeat' ((first|refine gT ?_|((with_reducible refine ai ?_ ?_);focus (simp [hlt];done))|((with_reducible refine aj ?_ ?_);focus (simp [hlt];done))|(with_reducible refine ab (fun _=>?_) (fun _=>?_))|(refine ak (idxL rfl rfl rfl rfl rfl rfl (by omega) hrow) ?_)|(((with_reducible refine qco (cT) [] [(0,0)] [] [(1,11),(2,12),(3,13),(4,14),(5,15)] [(11,.uniq),(12,.uniq),(13,.uniq),(14,.uniq),(15,.uniq)] (.tup [.agg (cnG 11 12 13 y.c),.glist 14 7 (y.out.map (sgG 15)),.val (.int .i64 0)]) ?_);refine sT ?_))|(((with_reducible refine qco (cTo) [] [(0,0),(1,14),(2,15)] [] [(3,17)] [(17,.uniq)] (.glist 17 8 ((toS c.ip y.out).map (snG 15))) ?_);refine sT ?_))|(refine ak (apG (nb:=80) rfl rfl rfl rfl rfl rfl rfl rfl rfl rfl ⟨Nat.zero_lt_succ _,Nat.zero_lt_succ _,rfl⟩ (nO _ _) (Nat.le_trans (Nat.mul_le_mul_right _ hsz1) (by decide))) ?_)|(refine ak (apG (nb:=160) rfl rfl rfl rfl rfl rfl rfl rfl rfl rfl ⟨Nat.zero_lt_succ _,Nat.zero_lt_succ _,rfl⟩ rfl (Nat.le_trans (Nat.mul_le_mul_right _ hsz3) (by decide))) ?_))<;>(conv=>whnf))))
     refine ⟨k + 1,by omega,by omega,?_⟩
     dsimp only
     rw [hgo]
     dsimp only
     (refine qcv hB [(1,1),(2,2)] [(0,0),(20,3),(4,4),(11,4),(5,5),(12,5),(6,6),(13,6),(18,7),(8,8),(15,8),(9,9)] [] ?_;repeat' (with_reducible first|exact trivial|refine And.intro ?_ ?_))
     all_goals first|rfl|(simp [w];done)|exact qb rfl rfl _ _|exact xk _ rfl rfl rfl rfl rfl rfl rfl _ _|exact ng _|(exact ao)|trace_state
  ·have e:l.take k=l:=List.take_of_length_le (by omega)
   rw [e]
   subst hE
   ((conv=>whnf);(repeat' ((first|refine gT ?_|((with_reducible refine ai ?_ ?_);focus (simp [hlt];done))|((with_reducible refine aj ?_ ?_);focus (simp [hlt];done))|(with_reducible refine ab (fun _=>?_) (fun _=>?_)))<;>(conv=>whnf))))
   (refine qcv hB [] [(0,0),(3,1),(4,2),(5,3),(6,4),(7,5),(8,6),(9,7)] [] ?_;repeat' (with_reducible first|exact trivial|refine And.intro ?_ ?_))
   all_goals first|rfl|exact aK rfl rfl rfl _|exact bf rfl _|exact xJ _ hh1|(exact ao)|trace_state
set_option maxHeartbeats 8000000
theorem wB {p q:Prop} (k:q) (h:Hold q→p:=by first|(intro hQ;refine And.intro ?_ ?_;(focus rfl);(conv=>whnf);(repeat (refine And.intro ?_ ?_;(focus (first|exact bA|(first|exact iB rfl rfl rfl (aS rfl rfl rfl _)|exact aw rfl rfl rfl (aC rfl rfl rfl _) (RowsRen.one (.cons (.val _) (.cons (.val _) (.cons (.val _) (.cons (.val _) (.cons (.val _) (.cons (.val _) (.cons (.val _) (.cons (.val _) .nil))))))))) RowsRen.nil)));(conv=>whnf)));(fail_if_success (with_reducible first|refine And.intro (bz ?_) ?_|refine And.intro (bD ?_) ?_));exact hQ.out)|fail):p:=h ⟨k⟩
theorem nf {p q:Prop} (k:q) (h:Hold q→p:=by first|(intro hQ;refine And.intro ?_ (And.intro ?_ (And.intro ?_ (And.intro ?_ ?_)));(focus kernel_rfl);(focus kernel_rfl);(focus kernel_rfl);(focus kernel_rfl);(conv=>whnf);(repeat (refine And.intro ?_ ?_;(focus (first|exact bA|(first|exact iB rfl rfl rfl (aS rfl rfl rfl _)|exact aw rfl rfl rfl (aC rfl rfl rfl _) (RowsRen.one (.cons (.val _) (.cons (.val _) (.cons (.val _) (.cons (.val _) (.cons (.val _) (.cons (.val _) (.cons (.val _) (.cons (.val _) .nil))))))))) RowsRen.nil)));(conv=>whnf)));(fail_if_success (with_reducible first|refine And.intro (bz ?_) ?_|refine And.intro (bD ?_) ?_));exact hQ.out)|fail):p:=h ⟨k⟩
theorem oD {h:Ho} (H:HoI h) (ip:Int) {s:Sg} :
 ((bits .and .i64 s.fl 4 != 0)=true∧h.fresh ip s=⟨h,[],[]⟩) ∨
 ((bits .and .i64 s.fl 4 != 0)=false∧h.fresh ip s=⟨h,[(ip,bm s)],[]⟩ ∧
   ((s.dp != 1883)=true∨(s.dp != 1883)=false∧((bits .and .i64 s.fl 2 == 0)=true∨(bits .and .i64 s.fl 2 == 0)=false∧((bits .and .i64 s.fl 16 != 0)=true∨(bits .and .i64 s.fl 16 != 0)=false ∧
     (decide (8≤(h.conns.length:Int))=true∨decide (8≤(h.conns.length:Int))=false∧(decide (4≤(synN h.conns:Int))=true∨decide (4≤(synN h.conns:Int))=false∧decide (1099511627776≤h.count)=true)))))) ∨
 ((bits .and .i64 s.fl 4 != 0)=false∧h.fresh ip s=h.more ip s∧(s.dp != 1883)=false∧(bits .and .i64 s.fl 2 == 0)=false∧(bits .and .i64 s.fl 16 != 0)=false∧decide (8≤(h.conns.length:Int))=false∧decide (4≤(synN h.conns:Int))=false∧decide (1099511627776≤h.count)=false):=by
 have e4:(bits .and .i64 s.fl 4 != 0) = !flN s.fl 4:=rfl
 have e2:(bits .and .i64 s.fl 2 == 0)=flN s.fl 2:=rfl
 have e16:(bits .and .i64 s.fl 16 != 0) = !flN s.fl 16:=rfl
 have e8:decide (8≤(h.conns.length:Int))=decide (8≤h.conns.length):=by rw [decide_eq_decide];omega
 have e5:decide (4≤(synN h.conns:Int))=decide (4≤synN h.conns):=by rw [decide_eq_decide];omega
 have e1:(s.dp != 1883) = !(s.dp == 1883):=rfl
 have ec:decide (1099511627776≤h.count)=(h.count == 1099511627776):=by
  have:=H.count
  rw [Bool.eq_iff_iff,beq_iff_eq,decide_eq_true_eq];omega
 rw [e4,e2,e16,e8,e5,e1,ec]
 unfold Ho.fresh
 generalize flN s.fl 4=v1
 generalize (s.dp == 1883)=v2
 generalize flN s.fl 2=v3
 generalize flN s.fl 16=v4
 generalize decide (8≤h.conns.length)=v5
 generalize decide (4≤synN h.conns)=v6
 generalize (h.count == 1099511627776)=v7
 cases v1<;>cases v2<;>cases v3<;>cases v4<;>cases v5<;>cases v6<;>cases v7<;>simp
theorem rM (l:List Cn) (count ip:Int) (s:Sg) (hs:s.data.length≤100000000):ACallL Tryz.prog 67 [.ptr 1 0 0,.val (.int .i64 ip),.agg (sgR 0 s)] [.perm,hsO [.glist 2 16 (l.map (cnP 3 4 5)),.val (.int .i64 count),.glist 6 8 [],.glist 8 3 []],.perm,.perm,.perm,.perm,.uniq,.uniq,.perm,.perm] (.tup [])
 [.perm,hsO [.glist 2 16 (l.map (cnP 3 4 5)),.val (.int .i64 count),.glist 10 8 [snN (ip,bm s)],.glist 8 3 []],.perm,.perm,.perm,.perm,.dead,.uniq,.perm,.perm,.uniq]:=by
 have px:=al s.data
 have cL:=gz s hs
 dsimp only [sgR,sgL] at cL ⊢
 obtain ⟨n,hn⟩ : ∃ n,s.len=n:=⟨_,rfl⟩
 obtain ⟨b,hb⟩ : ∃ b,flN s.fl 16=b:=⟨_,rfl⟩
 dsimp only [snN]
 unfold bm
 rw [hb]
 unfold flN at hb
 rw [hn] at cL ⊢
 have hb2:(bits .and .i64 s.fl 16 != 0) = !b:=by rw [bne,hb]
 cases b
 all_goals simp only [Bool.not_false,Bool.not_true] at hb2
 all_goals
  refine ACallL.of_ev af Tryz.func67 rfl (fun a w=>Tryz.call67 a w) (congrArg Array.toList Tryz.results67) Tryz.ntmps67 fun B hB=>?_
  ((conv=>whnf);(repeat' ((first|refine gT ?_|((with_reducible refine ai ?_ ?_);focus (simp;done))|((with_reducible refine aj ?_ ?_);focus (simp;done))|(with_reducible refine ab (fun _=>?_) (fun _=>?_))|((with_reducible refine qcp (cL) ?_);refine pT ?_)|((with_reducible refine qcp (bO _ _) ?_);refine pT ?_)|(refine ak (apG (nb:=80) rfl rfl rfl rfl rfl rfl rfl rfl rfl rfl ⟨Nat.zero_lt_succ _,Nat.zero_lt_succ _,rfl⟩ rfl (by decide)) ?_))<;>(conv=>whnf))))
  (refine qcv hB [(1,1)] [(0,0),(2,2),(3,3),(4,4),(5,5),(7,7),(8,8),(9,9),(13,10)] [] ?_;repeat' (with_reducible first|exact trivial|refine And.intro ?_ ?_))
  all_goals first|rfl|exact aw rfl rfl rfl (aC rfl rfl rfl _) (RowsRen.one (.cons (.val _) (.cons (.val _) (.cons (.val _) (.cons (.val _) (.cons (.val _) (.cons (.val _) (.cons (.val _) (.cons (.val _) .nil))))))))) RowsRen.nil|trace_state
theorem qz (s:Sg):(bm s).data=[]:=by
 unfold bm
 cases flN s.fl 16<;>rfl
theorem xI {L I F:Prs} {h:Hp} {r' : Nat} (l:List (Int × Sg)) (hl : ∀ p∈l,p.2.data=[]):RowsRen (qOf L I F) h (l.map snN) (l.map (snR r')) :=
 RowsRen.mapF l _ _ fun p hp => .cons (.val _) (.cons (.val _) (.cons (.val _) (.cons (.val _) (.cons (.val _) (.cons (.val _) (.cons (.val _) (.cons (by rw [hl p hp];exact Ren.vnil _ _) .nil)))))))
theorem mz (l:List Cn) (count ip:Int) (s:Sg) (H:HoI ⟨l,count⟩) (hip:0≤ip∧ip≤4294967295) (hs:sgB s=true) (hi:l.findIdx? (hisB ip s)=none) :
 ACallL Tryz.prog 35 [.agg (hoR ⟨l,count⟩),.val (.int .i64 ip),.agg (sgR 0 s)] [.perm] (.ptr 1 0 0) (rhH (Ho.fresh ⟨l,count⟩ ip s)):=by
 have px:=aQ l
 have pz:=al s.data
 have hl:=H.len
 dsimp only at hl
 have hno : ∀ c∈l,hisB ip s c=false:=by simpa using hi
 have ll:(l.map (cnR 0)).length=l.length:=by simp
 have hcl : ∀ d∈l,aA d:=fun d hd=>(H.ok d hd).1.I.cnLen
 have cC:=ci ⟨l,count⟩ (by dsimp only;omega) hcl
 have hd:=(fY hs).2.2.2.2.2.2
 have cRf:=rM l count ip s (by omega)
 have ways:=oD H ip (s:=s)
 obtain ⟨z,hz⟩ : ∃ z,Ho.fresh ⟨l,count⟩ ip s=z:=⟨_,rfl⟩
 rw [hz] at ways ⊢
 dsimp only at ways
 dsimp only [hoR,sgR,sgL,rhH,aT] at cC cRf ⊢
 refine ACallL.of_ev af Tryz.func35 rfl (fun a w=>Tryz.call35 a w) (congrArg Array.toList Tryz.results35) Tryz.ntmps35 fun B hB=>?_
 ((conv=>whnf);(repeat' ((first|refine gT ?_|((with_reducible refine ai ?_ ?_);focus (simp;done))|((with_reducible refine aj ?_ ?_);focus (simp;done))|(with_reducible refine ab (fun _=>?_) (fun _=>?_))|(((with_reducible refine qco (cC) [] [(0,0)] [] [(1,3),(2,4),(3,5),(4,6)] [(3,.uniq),(4,.uniq),(5,.uniq),(6,.uniq)] (.agg [.glist 3 16 (l.map (cnG 4 5 6)),.val (.int .i64 count)]) ?_);refine wB ?_)))<;>(conv=>whnf))))
 refine qAW.loopE af (X:=Nat × Int) (fun x=>ap 219 [(1,.val (.int .i64 ip)),(3,.ptr 1 0 0),(5,.ptr 2 0 0),(6,.val (.pointer none)),(7,.ptr 7 0 0),(8,.val (.int .i64 x.2)),(9,.val (.int .i64 x.1))])
  (fun x=>[.perm,.live ⟨2,24,[[.list 0 16 (l.map (cnR 0)),.val (.int .i64 count)]]⟩,.live ⟨7,39,[sgR 0 s]⟩,.uniq,.uniq,.uniq,.uniq,hsO [.glist 3 16 (l.map (cnG 4 5 6)),.val (.int .i64 count),.glist 8 8 [],.glist 10 3 []],.uniq,.uniq,.uniq,.uniq]) (fun x=>x.1≤l.length∧x.2=synN (l.take x.1)) (fun x=>l.length - x.1) (0,0) ⟨Nat.zero_le _,rfl⟩ ?_ ?_
 ·(refine qcv hB [(1,1),(2,2),(7,7)] [(0,0),(3,3),(4,4),(5,5),(6,6)] [] ?_;repeat' (with_reducible first|exact trivial|refine And.intro ?_ ?_))
  all_goals first|rfl|exact ek rfl (aK rfl rfl rfl _)|(exact ao)|trace_state
 ·rintro E ⟨k,v⟩ ⟨hk,hv⟩ hE
  dsimp only at hk hv ⊢
  have w:=IntWalk.i64_in ((k:Int) + 1) (by omega)
  by_cases hlt:k < l.length
  ·obtain ⟨d,hd⟩ : ∃ p,l[k]?=some p:=⟨_,List.getElem?_eq_getElem hlt⟩
   have hrow:(l.map (cnR 0))[(k:Int).toNat]?=some (cnR 0 d):=by simp [hd]
   have p1:=al d.out
   have p2:=ar d.parts
   have hdok:=(H.ok d (List.mem_of_getElem? hd)).1
   have cF:=l7 d s
   have hhis:=pv (ip:=ip) (c:=d) hs hdok.port
   rw [hno d (List.mem_of_getElem? hd)] at hhis
   obtain ⟨u1,hu1⟩ : ∃ b,(d.ip != ip)=b:=⟨_,rfl⟩
   obtain ⟨u2,hu2⟩ : ∃ b,fc d s=b:=⟨_,rfl⟩
   rw [hu2] at hhis cF
   have hu3:(d.ip == ip) = !u1:=by rw [← hu1,bne,Bool.not_not]
   rw [hu3] at hhis
   have hu:u1=true∨u1=false∧u2=false:=by cases u1<;>cases u2<;>first|(exact .inl rfl)|(exact .inr ⟨rfl,rfl⟩)|cases hhis
   dsimp only [sgR,sgL,cnR,cnL] at cF
   have hsn:synN (l.take (k + 1))=synN (l.take k) + (if d.st=1 then 1 else 0):=by
    unfold synN
    rw [bj hd,List.filter_append,List.length_append]
    by_cases h1:d.st=1<;>simp [h1]
   have hle:synN (l.take k)≤k:=by
    unfold synN
    exact Nat.le_trans (List.length_filter_le _ _) (by simp;omega)
   have w2:=IntWalk.i64_in (v + 1) (by omega)
   by_cases h1:d.st=1
   ·rw [if_pos h1] at hsn
    subst hE
    rcases hu with rfl|⟨rfl,rfl⟩
    all_goals
     ((conv=>whnf);(repeat' ((first|refine gT ?_|((with_reducible refine ai ?_ ?_);focus (simp [hlt,h1];done))|((with_reducible refine aj ?_ ?_);focus (simp [hlt,h1];done))|(with_reducible refine ab (fun _=>?_) (fun _=>?_))|((with_reducible refine qcp (cF) ?_);refine pT ?_)|(refine ak (idxL rfl rfl rfl rfl rfl rfl (by omega) hrow) ?_))<;>(conv=>whnf))))
     refine ⟨(k + 1,IntKind.i64.wrap (v + 1)),⟨by dsimp only;omega,by dsimp only;rw [w2,hsn,hv];omega⟩,by dsimp only;omega,?_⟩
     as_aux_lemma =>
      (refine qcv hB [(1,1),(2,2),(7,7)] [(0,0),(3,3),(4,4),(5,5),(6,6),(8,8),(9,9),(10,10),(11,11)] [] ?_;repeat' (with_reducible first|exact trivial|refine And.intro ?_ ?_))
      all_goals first|rfl|(simp [w];done)|(exact congrArg (Value.int IntKind.i64) (by rw [w2];rfl))|(exact congrArg (Value.int IntKind.i64) (by rw [w2];omega))|(simp [w2];done)|exact iB rfl rfl rfl (aK rfl rfl rfl _)|(exact ao)|trace_state
   ·rw [if_neg h1] at hsn
    subst hE
    rcases hu with rfl|⟨rfl,rfl⟩
    all_goals
     ((conv=>whnf);(repeat' ((first|refine gT ?_|((with_reducible refine ai ?_ ?_);focus (simp [hlt,h1];done))|((with_reducible refine aj ?_ ?_);focus (simp [hlt,h1];done))|(with_reducible refine ab (fun _=>?_) (fun _=>?_))|((with_reducible refine qcp (cF) ?_);refine pT ?_)|(refine ak (idxL rfl rfl rfl rfl rfl rfl (by omega) hrow) ?_))<;>(conv=>whnf))))
     refine ⟨(k + 1,v),⟨by dsimp only;omega,by dsimp only;rw [hsn,hv];omega⟩,by dsimp only;omega,?_⟩
     as_aux_lemma =>
      (refine qcv hB [(1,1),(2,2),(7,7)] [(0,0),(3,3),(4,4),(5,5),(6,6),(8,8),(9,9),(10,10),(11,11)] [] ?_;repeat' (with_reducible first|exact trivial|refine And.intro ?_ ?_))
      all_goals first|rfl|(simp [w];done)|exact iB rfl rfl rfl (aK rfl rfl rfl _)|(exact ao)|trace_state
  ·have e:l.take k=l:=List.take_of_length_le (by omega)
   rw [e] at hv
   subst hv
   rcases ways with ⟨w1,rfl⟩|⟨w1,rfl,w⟩|⟨w1,e2,w2,w3,w4,w5,w6,w7⟩
   ·subst hE
    ((conv=>whnf);(repeat' ((first|refine gT ?_|((with_reducible refine ai ?_ ?_);focus (simp [hlt];done))|((with_reducible refine aj ?_ ?_);focus (simp [hlt];done))|(with_reducible refine ab (fun _=>?_) (fun _=>?_)))<;>(conv=>whnf))))
    (refine qcv hB [(7,1)] [(0,0),(3,2),(4,3),(5,4),(6,5),(8,6),(9,7),(10,8),(11,9)] [] ?_;repeat' (with_reducible first|exact trivial|refine And.intro ?_ ?_))
    all_goals first|rfl|exact iB rfl rfl rfl (aS rfl rfl rfl _)|trace_state
   ·subst hE
    rcases w with w2|⟨w2,w3|⟨w3,w4|⟨w4,w5|⟨w5,w6|⟨w6,w7⟩⟩⟩⟩⟩
    all_goals
     (try rw [← ll] at w5)
     ((conv=>whnf);(repeat' ((first|refine gT ?_|((with_reducible refine ai ?_ ?_);focus (simp [hlt];done))|((with_reducible refine aj ?_ ?_);focus (simp [hlt];done))|(with_reducible refine ab (fun _=>?_) (fun _=>?_))|(((with_reducible refine qcx (cRf) [(1,7)] [(0,0),(2,3),(3,4),(4,5),(5,6),(6,8),(7,9),(8,10),(9,11)] [] [(10,12)] [(7,hsO [.glist 3 16 (l.map (cnP 4 5 6)),.val (.int .i64 count),.glist 12 8 [snN (ip,bm s)],.glist 10 3 []]),(8,.dead),(12,.uniq)] (.tup []) [(1,7)] [(10,12),(0,0),(2,3),(3,4),(4,5),(5,6),(7,9),(8,10),(9,11)] [(6,8)] ?_);refine nf ?_)))<;>(conv=>whnf))))
    all_goals as_aux_lemma =>
     (refine qcv hB [(7,1)] [(0,0),(3,2),(4,3),(5,4),(6,5),(12,6),(9,7),(10,8),(11,9)] [] ?_;repeat' (with_reducible first|exact trivial|refine And.intro ?_ ?_))
     all_goals first|rfl|exact aw rfl rfl rfl (aC rfl rfl rfl _) (xI [(ip,bm s)] (fun p hp=>by rw [List.mem_singleton.1 hp];exact qz s)) RowsRen.nil|trace_state
   ·unfold Ho.more at e2
    obtain ⟨m0,hm0⟩ : ∃ m0,(ce (count + 1) ip (wadd 0 (64000 * (count + 1))) s).out=[m0]:=⟨_,rfl⟩
    dsimp only at e2
    obtain ⟨y,hy⟩ : ∃ y,ce (count + 1) ip (wadd 0 (64000 * (count + 1))) s=y:=⟨_,rfl⟩
    have hc:=H.count
    dsimp only at hc
    have wc:IntKind.i64.wrap (count + 1)=count + 1:=IntWalk.i64_in _ (by omega)
    have cAdd:ACallL Tryz.prog 63 [.val (.int .i64 0),.val (.int .i64 (IntKind.i64.wrap (64000 * IntKind.i64.wrap (count + 1))))] [.perm] (.val (.int .i64 (wadd 0 (64000 * (count + 1))))) [.perm]:=by
     rw [wc,IntWalk.i64_in (64000 * (count + 1)) (by omega)];exact bO _ _
    have cOp:=vH (count + 1) ip (wadd 0 (64000 * (count + 1))) s
    rw [hy] at cOp hm0 e2
    have cOp' : ∀ a,a=count + 1→ACallL Tryz.prog 68 [.val (.int .i64 a),.val (.int .i64 ip),.val (.int .i64 (wadd 0 (64000 * (count + 1)))),.agg (sgR 0 s)] [.perm] (.ptr 1 0 0) (rsH y):=fun a ea=>by rw [ea];exact cOp
    dsimp only [sgR,sgL,rsH,rsN] at cOp'
    have hrow0:(y.out.map (sgR 18))[(0:Int).toNat]?=some (sgR 18 m0):=by rw [hm0];rfl
    have hsz:(l.map (cnG 4 5 6)).length + 1≤100:=by simp;omega
    rw [← ll] at w5
    subst e2
    subst hE
    ((conv=>whnf);(repeat' ((first|refine gT ?_|((with_reducible refine ai ?_ ?_);focus (simp [hlt];done))|((with_reducible refine aj ?_ ?_);focus (simp [hlt];done))|(with_reducible refine ab (fun _=>?_) (fun _=>?_))|((with_reducible refine qcp (cAdd) ?_);refine pT ?_)|(((with_reducible refine qcx ((cOp' _ wc)) [] [(0,0)] [] [(1,12),(2,13),(3,14),(4,15),(5,16),(6,17),(7,18)] [(12,rsO (rsN 13 14 15 16 17 18 y)),(13,.uniq),(14,.uniq),(15,.uniq),(16,.uniq),(17,.uniq),(18,.uniq)] (.ptr 12 0 0) [(1,12)] [(2,13),(3,14),(4,15),(5,16),(6,17),(7,18),(0,0)] [] ?_);refine nf ?_))|(refine ak (idxG rfl rfl rfl rfl rfl rfl (by omega) hrow0) ?_)|(refine ak (apG (nb:=80) rfl rfl rfl rfl rfl rfl rfl rfl rfl rfl ⟨Nat.zero_lt_succ _,Nat.zero_lt_succ _,rfl⟩ rfl (by decide)) ?_)|(refine ak (apG (nb:=160) rfl rfl rfl rfl rfl rfl rfl rfl rfl rfl ⟨Nat.zero_lt_succ _,Nat.zero_lt_succ _,rfl⟩ rfl (Nat.le_trans (Nat.mul_le_mul_right _ hsz) (by decide))) ?_))<;>(conv=>whnf))))
    all_goals as_aux_lemma =>
     rw [hm0]
     (refine qcv hB [(7,1)] [(0,0),(22,2),(4,3),(13,3),(5,4),(14,4),(6,5),(15,5),(20,6),(18,7),(10,8),(11,9)] [] ?_;repeat' (with_reducible first|exact trivial|refine And.intro ?_ ?_))
     all_goals first|rfl|(rw [wc];exact aw rfl rfl rfl (RowsRen.castR (b:=l.map (cnP 3 4 5) ++ [cnP 3 4 5 y.c]) (by simp) (RowsRen.app (aS rfl rfl rfl _) (RowsRen.one (qN rfl rfl rfl _)))) (ay (r:=18) rfl [(ip,m0)]) RowsRen.nil)|trace_state
structure Sq (D:Nat→Prop) (w w' : World):Prop where
 size:w.heap.size≤w'.heap.size
 os:w'.os=w.os
 tape:w'.tape=w.tape
 output:w'.output=w.output
 far : ∀ g,g < w.heap.size → ¬ D g→w'.heap[g]?=w.heap[g]?
theorem Sq.of {D P S:Nat→Prop} {w w' : World} (h:Sp D P w w') (hd : ∀ g,D g→S g) (hp : ∀ g,P g→S g):Sq S w w' := ⟨h.size,h.os,h.tape,h.output,fun g hg hn=>h.far g hg (fun h=>hn (hd g h)) (fun h=>hn (hp g h))⟩
theorem Sq.trans {D:Nat→Prop} {a b c:World} (h:Sq D a b) (k:Sq D b c):Sq D a c :=
 ⟨Nat.le_trans h.size k.size,k.os.trans h.os,k.tape.trans h.tape,k.output.trans h.output,fun g hg h1=>(k.far g (Nat.lt_of_lt_of_le hg h.size) h1).trans (h.far g hg h1)⟩
theorem Sq.grown {D:Nat→Prop} {w w' : World} (hg:w.grownBy w' none):Sq D w w' := ⟨hg.size,hg.os,hg.tape,hg.output,fun k hk _=>hg.block k hk (by simp)⟩
theorem Rel.spoilQ {m:Nm} {h:Hp} {w w' : World} (rel:Rel m h w) {D:Nat→Prop} (h' : Hp) (hU : ∀ id,h' id=h id∨(h id = .uniq∧h' id = .dead)) (hD : ∀ g,D g → ∃ r,h r = .uniq∧h' r = .dead∧m.set r g) (S:Sq D w w'):Rel m h' w' ∧ Ev m h w m h' w' := by
 have live : ∀ id k,h' id = .live k→h id = .live k:=fun id k hk=>by
  rcases hU id with e|⟨_,e⟩
  ·rw [← e];exact hk
  ·rw [hk] at e;cases e
 have imm : ∀ r,(h' r).imm→h' r=h r:=fun r hr=>by
  rcases hU r with e|⟨_,e⟩
  ·exact e
  ·rw [e] at hr;exact hr.elim
 have farL : ∀ id k,h id = .live k→w'.heap[(m.pl id).1]?=w.heap[(m.pl id).1]?:=fun id k hk=>by
  have hlt:(m.pl id).1 < w.heap.size:=by
   obtain ⟨c,hc,_⟩:=rel.own id k hk
   exact (Array.getElem?_eq_some_iff.1 hc).1
  have no : ¬ (D (m.pl id).1):=fun hh=>by
   obtain ⟨r,h1,_,h3⟩:=hD _ hh
   exact rel.sepR id k r hk (by rw [h1];trivial) h3
  exact S.far _ hlt no
 have ev:Ev m h w m h' w' := by
  refine ⟨fun _ _=>rfl,fun _ _=>rfl,fun id=>?_,S.size,fun id k k' h1 h2 cur e f hc=>⟨cur,e,f,by rw [← farL id k h1];exact hc,rfl⟩,fun g hg ho hu=>?_,fun id k h1 h2=>?_,fun id g h1 h2=>?_,S.os,S.tape,S.output⟩
  ·rcases hU id with e|⟨e1,e⟩
   ·rw [e];exact Own.goes_refl _
   ·rw [e,e1];trivial
  ·have no : ¬ (D g):=fun hh=>by
    obtain ⟨r,h1,h2,h3⟩:=hD _ hh
    have:=hu r h1 h3
    rw [h2] at this;cases this
   exact S.far _ hg no
  ·have:=live id k h2;rw [h1] at this;cases this
  ·have:=imm id (by rw [h2];trivial)
   rw [h2,h1] at this;cases this
 refine ⟨⟨fun id k hk=>?_,fun id id' k k' h1 h2 e=>rel.sep id id' k k' (live _ _ h1) (live _ _ h2) e,fun id k r h1 h2=>?_,fun r r' g h1 h2 hne hs=>?_,fun r g h1 hs=>?_,fun r g h1 hs=>?_⟩,ev⟩
 ·have h0:=live id k hk
  obtain ⟨cur,h1,h2,h3,h4⟩:=rel.own id k h0
  exact ⟨cur,by rw [farL id k h0];exact h1,h2,h3,fun i j row c a b=>let ⟨v,x,y⟩:=h4 i j row c a b;⟨v,x,y.mono rel ev⟩⟩
 ·have e:=imm r h2
  exact rel.sepR id k r (live _ _ h1) (by rw [← e];exact h2)
 ·have e1:=imm r (by rw [h1];trivial)
  have e2:=imm r' h2
  exact rel.sepU r r' g (by rw [← e1];exact h1) (by rw [← e2];exact h2) hne hs
 ·have e1:=imm r h1
  exact Nat.lt_of_lt_of_le (rel.bound r g (by rw [← e1];exact h1) hs) S.size
 ·have e1:=imm r (by rw [h1];trivial)
  have hr:h r = .uniq:=by rw [← e1];exact h1
  have no : ¬ (D g):=fun hh=>by
   obtain ⟨r2,h3,h4,h5⟩:=hD _ hh
   have hne:r2≠r:=by rintro rfl;rw [h1] at h4;cases h4
   exact rel.sepU r2 r g h3 (by rw [hr];trivial) hne h5 hs
  rw [S.far _ (rel.bound r g (by rw [hr];trivial) hs) no]
  exact rel.free r g hr hs
open BigFrame
structure Sg3 (D P G:Nat→Prop) (w w' : World):Prop where
 size:w.heap.size≤w'.heap.size
 os:w'.os=w.os
 tape:w'.tape=w.tape
 output:w'.output=w.output
 far : ∀ g,g < w.heap.size → ¬ D g → ¬ P g → ¬ G g→w'.heap[g]?=w.heap[g]?
 byt : ∀ g,D g→BlkK byK w w' g
 prt : ∀ g,P g→BlkK prK w w' g
section
variable {D P G:Nat→Prop} {a w w' : World}
theorem Sg3.refl (D P G:Nat→Prop) (w:World):Sg3 D P G w w:=⟨Nat.le_refl _,rfl,rfl,rfl,fun _ _ _ _ _=>rfl,(Sp.refl D P w).byt,(Sp.refl D P w).prt⟩
theorem Sg3.sp (h:Sg3 D P G a w) (k:Sp D P w w'):Sg3 D P G a w' :=
 ⟨Nat.le_trans h.size k.size,k.os.trans h.os,k.tape.trans h.tape,k.output.trans h.output,fun g hg h1 h2 h3=>(k.far g (Nat.lt_of_lt_of_le hg h.size) h1 h2).trans (h.far g hg h1 h2 h3),
  fun g hg=>BlkK.trans (K:=byK) (fun _ _ _ h k=>byK.trans h k) (h.byt g hg) (k.byt g hg),fun g hg=>BlkK.trans (K:=prK) (fun _ _ _ h k=>prK.trans h k) (h.prt g hg) (k.prt g hg)⟩
theorem Sg3.set (h:Sg3 D P G a w) (hdg : ∀ x,G x → ¬ D x ∧ ¬ P x) {g:Nat} (hg:G g) (o:Nat) (v:Value):Sg3 D P G a (w.setCell ⟨g,o,none⟩ v) :=
 ⟨by simpa [World.setCell] using h.size,h.os,h.tape,h.output,fun x hx h1 h2 h3=>(Below.heap_setCell _ _ _ _ (by rintro rfl;exact h3 hg)).trans (h.far x hx h1 h2 h3),
  fun x hx=>BlkK.trans (K:=byK) (fun _ _ _ h k=>byK.trans h k) (h.byt x hx) (.same (fun _ => .inl rfl) (Below.heap_setCell _ _ _ _ (by rintro rfl;exact (hdg _ hg).1 hx))),
  fun x hx=>BlkK.trans (K:=prK) (fun _ _ _ h k=>prK.trans h k) (h.prt x hx) (.same (fun _ => .inl rfl) (Below.heap_setCell _ _ _ _ (by rintro rfl;exact (hdg _ hg).2 hx)))⟩
theorem BySp.mono3 {v:Value} (h:BySp D w v) (s:Sg3 D P G w w'):BySp D w' v:=by
 rcases h with h|h|⟨g,off,n,cap,cur,e,rfl,hd,h1,h2,h3,h4,h5,h6⟩
 ·exact .inl h
 ·exact .inr (.inl h)
 ·obtain ⟨c,a1,a2,a3⟩:=s.byt g hd cur e h4
  refine .inr (.inr ⟨g,off,n,cap,c,e,rfl,hd,h1,h2,h3,a1,by omega,fun k hk=>?_⟩)
  obtain ⟨x,hx⟩:=h6 k hk
  obtain ⟨v', b1,b2⟩:=a3 _ _ hx
  rcases b2 with rfl|⟨y,rfl⟩
  ·exact ⟨x,b1⟩
  ·exact ⟨y,b1⟩
theorem PaSp.mono3 {v:Value} (h:PaSp D P w v) (s:Sg3 D P G w w'):PaSp D P w' v:=by
 rcases h with h|h|⟨g,off,n,cap,cur,e,rfl,hp,h1,h2,h3⟩
 ·exact .inl h
 ·exact .inr (.inl h)
 ·obtain ⟨c,a1,a2,a3⟩:=s.prt g hp cur e h2
  refine .inr (.inr ⟨g,off,n,cap,c,e,rfl,hp,h1,a1,fun k hk=>?_⟩)
  obtain ⟨x,u,b1,b2,b3⟩:=h3 k hk
  obtain ⟨v1,d1,d2⟩:=a3 _ _ b1
  obtain ⟨v2,f1,f2⟩:=a3 _ _ b2
  have hv1 : ∃ y,v1 = .int .i64 y:=by
   rcases d2 with rfl|⟨k', x', y', e1,e2⟩|⟨p,n,q,e1,e2⟩
   ·exact ⟨x,rfl⟩
   ·cases e1;exact ⟨y', e2⟩
   ·cases e1
  obtain ⟨y,rfl⟩:=hv1
  have b4:=b3.mono3 s
  rcases f2 with rfl|⟨k', x', y', e1,e2⟩|⟨p,n,q,e1,e2⟩
  ·exact ⟨y,v2,d1,f1,b4⟩
  ·rw [e1] at b3
   rcases b3 with h|⟨a,h⟩|⟨g', o', n', cap', cu,e', h,_⟩<;>cases h
  ·exact ⟨y,v2,d1,f1,.inl e2⟩
theorem BySp.slice {v:Value} (h:BySp D w v) : ∃ p n c,v = .slice p n c:=by
 rcases h with h|⟨a,h⟩|⟨g', o', n', cap', cu,e', h,_⟩
 ·exact ⟨_,_,_,h⟩
 ·exact ⟨_,_,_,h⟩
 ·exact ⟨_,_,_,h⟩
theorem PaSp.slice {v:Value} (h:PaSp D P w v) : ∃ p n c,v = .slice p n c:=by
 rcases h with h|⟨a,c,h⟩|⟨g', o', n', cap', cu,e', h,_⟩
 ·exact ⟨_,_,_,h⟩
 ·exact ⟨_,_,_,h⟩
 ·exact ⟨_,_,_,h⟩
theorem Sg3.sq (h:Sg3 D P G w w') {S:Nat→Prop} (hd : ∀ g,D g→S g) (hp : ∀ g,P g→S g) (hg : ∀ g,G g→S g):Sq S w w' := ⟨h.size,h.os,h.tape,h.output,fun g hlt hn=>h.far g hlt (fun x=>hn (hd g x)) (fun x=>hn (hp g x)) (fun x=>hn (hg g x))⟩
theorem Sg3.alloc (h:Sg3 D P G a w) (o:Obj):Sg3 D P G a (w.alloc o):=h.sp ((Sp.refl D P w).alloc o)
def Tail (wr:World) (g:Nat) (cur:Array Value) (e:TypeId) (j0:Nat):Prop := ∃ cur', wr.heap[g]?=some (.cells cur' e (0,0)) ∧ ∀ j,j0≤j→cur'[j]?=cur[j]?
theorem Tail.sp {wr w2:World} {g:Nat} {cur:Array Value} {e:TypeId} {j0:Nat} (h:Tail wr g cur e j0) (k:Sp D P wr w2) (h1 : ¬ D g) (h2 : ¬ P g):Tail w2 g cur e j0:=by
 obtain ⟨c,a,b⟩:=h
 exact ⟨c,(k.far g (gq a) h1 h2).trans a,b⟩
theorem Tail.cell {wr:World} {g:Nat} {cur:Array Value} {e:TypeId} {j0 j:Nat} {v:Value} (h:Tail wr g cur e j0) (hj:j0≤j) (hc:cur[j]?=some v):wr.cell? ⟨g,j,none⟩=some v:=by
 obtain ⟨c,a,b⟩:=h
 simp only [World.cell?,a]
 rw [b j hj];exact hc
theorem Tail.frozen {wr:World} {g:Nat} {cur:Array Value} {e:TypeId} {j0 j:Nat} (h:Tail wr g cur e j0):wr.frozen? ⟨g,j,none⟩=false:=by
 obtain ⟨c,a,b⟩:=h
 simp [World.frozen?,a]
theorem Tail.set {wr:World} {g:Nat} {cur:Array Value} {e:TypeId} {j0 j1 o:Nat} (h:Tail wr g cur e j0) (h01:j0≤j1) (ho:o < j1) (v:Value):Tail (wr.setCell ⟨g,o,none⟩ v) g cur e j1:=by
 obtain ⟨c,a,b⟩:=h
 exact ⟨_,dL a v,fun j hj=>by rw [Array.getElem?_setIfInBounds_ne (by omega)];exact b j (by omega)⟩
end
def HdSp (D G:Nat→Prop) (w:World) (v:Value):Prop :=
 v = .slice none 0 0∨(∃ a cap,v = .slice (some a) 0 cap) ∨ ∃ g off n cap cur e,v = .slice (some ⟨g,off,none⟩) n cap∧G g∧n≤100000000∧w.heap[g]?=some (.cells cur e (0,0)) ∧ ∀ k,k < n → ∃ x u b,cur[off + k * 3]?=some (.int .i64 x)∧cur[off + k * 3 + 1]?=some u∧BySp D w u∧cur[off + k * 3 + 2]?=some (.bool b)
theorem sX (D G:Nat→Prop) (hdg : ∀ g,G g → ¬ D g) (v:Value) (w:World) (h:HdSp D G w v):Calls Tryz.prog 43 #[v] w fun e w' => e = .returned (.tuple #[])∧Sg3 D (fun _=>False) G w w' := by
 have HS:=Sg3.refl D (fun _=>False) G w
 rcases h with rfl|⟨a,cap,rfl⟩|⟨g,off,n,cap,cur,e,rfl,hp,h1,h2,h3⟩
 ·go_enter Tryz.func43,Tryz.ntmps43
  go_wp2
  refine wp_loop_rounds 1 ?_
  rw [rounds_succ]
  go_wp2
  go_end0
  exact ⟨rfl,HS⟩
 ·go_enter Tryz.func43,Tryz.ntmps43
  go_wp2
  refine wp_loop_rounds 1 ?_
  rw [rounds_succ]
  go_wp2
  go_end0
  exact ⟨rfl,HS⟩
 ·have HH:=hid h3
  have HT:Tail w g cur e (off + 0 * 3):=⟨cur,h2,fun _ _=>rfl⟩
  have nd:=hid (hdg g hp)
  have hdg2 : ∀ x,G x → ¬ D x ∧ ¬ (fun _:Nat=>False) x:=fun x hx=>⟨hdg x hx,fun h=>h⟩
  have HDG:=hid hdg2
  clear h3 h2 hdg hdg2
  go_enter Tryz.func43,Tryz.ntmps43
  go_wp2
  go_loopw [2] (fun i wr => ∃ k:Nat,k≤n∧i = .int .i64 k∧Sg3 D (fun _=>False) G w wr∧Tail wr g cur e (off + k * 3)) (fun i _=>n - (intOf i).toNat)
  case atStart=>exact ⟨0,Nat.zero_le _,rfl,HS,HT⟩
  case round =>
   obtain ⟨k,hk,rfl,hS,hT⟩:=hrel
   clear HS HT
   by_cases hkn:k < n
   ·obtain ⟨x,u,b,r1,r2,r3,r4⟩:=HH.out k hkn
    have r3' := r3.mono3 hS
    obtain ⟨p,m,c,rfl⟩:=r3.slice
    have cr:=hT.cell (j:=off + k * 3 + 1) (by omega) r2
    have C:=hid (g7 D (fun _=>False) (fun _ _ h=>h) _ wr r3')
    have H1:=hid hS
    have T1:=hid hT
    have R1:=hid r1
    have R2:=hid r2
    have R4:=hid r4
    clear hS hT r1 r2 r3 r3' r4
    go_wp2_with (go_at_call 44;(with_reducible refine (C.out).mono ?_);rintro e2 w2 ⟨rfl,S2⟩;have T2:=T1.out.sp S2 nd.out (fun h=>h);have f0:=T2.cell (j:=off + k * 3) (by omega) R1.out;have f1:=T2.cell (j:=off + k * 3 + 1) (by omega) R2.out;have f2:=T2.cell (j:=off + k * 3 + 2) (by omega) R4.out;have z0:=T2.frozen (j:=off + k * 3);have z1:=T2.frozen (j:=off + k * 3 + 1);have z2:=T2.frozen (j:=off + k * 3 + 2);have S3:=hid (H1.out.sp S2);have T3:=hid T2;clear S2 T2)
    go_roundw
    case rel=>exact ⟨k + 1,by omega,by go_num,((S3.out.set HDG.out hp _ _).set HDG.out hp _ _).set HDG.out hp _ _,((T3.out.set (j1:=off + (k + 1) * 3) (by omega) (by omega) _).set (Nat.le_refl _) (by omega) _).set (Nat.le_refl _) (by omega) _⟩
    case measure=>simp [intOf];omega
   ·go_wp2
    go_end0
    exact ⟨rfl,hS⟩
set_option maxHeartbeats 4000000 in
theorem vV (D P:Nat→Prop) (hdp : ∀ g,D g → ¬ P g) (i0 i1 i2 i3 i4 i5 i6 i7 i9 j1 j2 j3:Int) (b0 b1:Bool) (o p:Value) (w:World) (hlt : ∀ g,D g∨P g→g < w.heap.size) (ho:BySp D w o) (hp:PaSp D P w p) :
 Calls Tryz.prog 81 #[.agg #[.int .i64 i0,.int .i64 i1,.int .i64 i2,.int .i64 i3,.int .i64 i4,.int .i64 i5,.int .i64 i6,.int .i64 i7,o,.int .i64 i9,p,.bool b0,.bool b1,.int .i64 j1,.int .i64 j2,.int .i64 j3]] w fun e w' => e = .returned (.tuple #[])∧Sp D P w w' := by
 have HS:=Sp.refl D P w
 have nd : ¬ D w.heap.size:=fun h=>absurd (hlt _ (.inl h)) (by omega)
 have np : ¬ P w.heap.size:=fun h=>absurd (hlt _ (.inr h)) (by omega)
 have C1:=hid (fun (w1:World) (S:Sp D P w w1)=>g7 D P hdp o w1 (ho.mono S))
 have C2:=hid (fun (w1:World) (S:Sp D P w w1)=>rv D P hdp i9 p w1 (fun g h=>Nat.lt_of_lt_of_le (hlt g h) S.size) (hp.mono S))
 clear hlt ho hp
 go_enter Tryz.func81,Tryz.ntmps81
 go_wp2_with (first|(go_at_call 44;(with_reducible refine (C1.out _ (HS.alloc _)).mono ?_);rintro e2 w2 ⟨rfl,S2⟩;have f9:w2.cell? ⟨w.heap.size,9,none⟩=some (.int .i64 i9):=((S2.cellFar (o:=9) (by simp) nd np).trans ((fe _ _ _ _ 9).trans rfl));have f10:w2.cell? ⟨w.heap.size,10,none⟩=some p:=((S2.cellFar (o:=10) (by simp) nd np).trans ((fe _ _ _ _ 10).trans rfl));have S3:=(HS.alloc _).trans S2;clear S2)|(go_at_call 119;(with_reducible refine (C2.out _ S3).mono ?_);rintro e3 w3 ⟨rfl,S4⟩;have S5:=S3.trans S4;clear S4))
 go_end0
 exact ⟨rfl,S5⟩
def CosSp (D P G:Nat→Prop) (w:World) (v:Value):Prop :=
 v = .slice none 0 0∨(∃ a cap,v = .slice (some a) 0 cap) ∨ ∃ g off n cap cur e,v = .slice (some ⟨g,off,none⟩) n cap∧G g∧n≤100000000∧w.heap[g]?=some (.cells cur e (0,0)) ∧ ∀ k,k < n → ∃ (i0 i1 i2 i3 i4 i5 i6 i7:Int) (o:Value) (i9:Int) (p:Value) (b0 b1:Bool) (j1 j2 j3:Int),cur[off + k * 16]?=some (.int .i64 i0)∧cur[off + k * 16 + 1]?=some (.int .i64 i1)∧cur[off + k * 16 + 2]?=some (.int .i64 i2)∧cur[off + k * 16 + 3]?=some (.int .i64 i3)∧cur[off + k * 16 + 4]?=some (.int .i64 i4)∧cur[off + k * 16 + 5]?=some (.int .i64 i5)∧cur[off + k * 16 + 6]?=some (.int .i64 i6)∧cur[off + k * 16 + 7]?=some (.int .i64 i7)∧cur[off + k * 16 + 8]?=some o∧cur[off + k * 16 + 9]?=some (.int .i64 i9)∧cur[off + k * 16 + 10]?=some p∧cur[off + k * 16 + 11]?=some (.bool b0)∧cur[off + k * 16 + 12]?=some (.bool b1)∧cur[off + k * 16 + 13]?=some (.int .i64 j1)∧cur[off + k * 16 + 14]?=some (.int .i64 j2)∧cur[off + k * 16 + 15]?=some (.int .i64 j3)∧BySp D w o∧PaSp D P w p
set_option maxHeartbeats 16000000 in
theorem wN (D P G:Nat→Prop) (hdp : ∀ g,D g → ¬ P g) (hdg : ∀ x,G x → ¬ D x ∧ ¬ P x) (cnt:Int) (v:Value) (w:World) (hlt : ∀ g,D g∨P g∨G g→g < w.heap.size) (h:CosSp D P G w v) :
 Calls Tryz.prog 42 #[.agg #[v,.int .i64 cnt]] w fun e w' => e = .returned (.tuple #[])∧Sg3 D P G w w' := by
 have HS:=Sg3.refl D P G w
 rcases h with rfl|⟨a,cap,rfl⟩|⟨g,off,n,cap,cur,e,rfl,hp,h1,h2,h3⟩
 ·clear hlt
  go_enter Tryz.func42,Tryz.ntmps42
  go_wp2
  refine wp_loop_rounds 1 ?_
  rw [rounds_succ]
  go_wp2
  go_end0
  exact ⟨rfl,HS.alloc _⟩
 ·clear hlt
  go_enter Tryz.func42,Tryz.ntmps42
  go_wp2
  refine wp_loop_rounds 1 ?_
  rw [rounds_succ]
  go_wp2
  go_end0
  exact ⟨rfl,HS.alloc _⟩
 ·have hg:=hlt g (.inr (.inr hp))
  have nd : ¬ D w.heap.size:=fun h=>absurd (hlt _ (.inl h)) (by omega)
  have np : ¬ P w.heap.size:=fun h=>absurd (hlt _ (.inr (.inl h))) (by omega)
  have HH:=hid h3
  have HT:Tail (w.alloc (.cells #[.slice (some ⟨g,off,none⟩) n cap,.int .i64 cnt] 24)) g cur e (off + 0 * 16):=⟨cur,(Below.heap_alloc _ _ _ hg).trans h2,fun _ _=>rfl⟩
  have HL:=hid (fun (wr:World) (hs:w.heap.size≤wr.heap.size) (x:Nat) (h:D x∨P x)=>Nat.lt_of_lt_of_le (hlt x (by rcases h with h|h;exact .inl h;exact .inr (.inl h))) hs)
  have ndg:=hid (hdg g hp)
  have HDG:=hid hdg
  clear h3 h2 hlt hdg
  go_enter Tryz.func42,Tryz.ntmps42
  go_wp2
  go_loopw [2] (fun i wr => ∃ k:Nat,k≤n∧i = .int .i64 k∧Sg3 D P G w wr∧Tail wr g cur e (off + k * 16)∧wr.cell? ⟨w.heap.size,0,none⟩=some (.slice (some ⟨g,off,none⟩) n cap)∧w.heap.size < wr.heap.size) (fun i _=>n - (intOf i).toNat)
  case atStart=>exact ⟨0,Nat.zero_le _,rfl,HS.alloc _,HT,(fe _ _ _ _ 0).trans rfl,by simp⟩
  case round =>
   obtain ⟨k,hk,rfl,hS,hT,hbx,hsz⟩:=hrel
   clear HS HT
   by_cases hkn:k < n
   ·obtain ⟨i0,i1,i2,i3,i4,i5,i6,i7,o,i9,p,b0,b1,j1,j2,j3,r0,r1,r2,r3,r4,r5,r6,r7,r8,r9,r10,r11,r12,r13,r14,r15,ro,rp⟩:=HH.out k hkn
    have C:=hid (vV D P hdp i0 i1 i2 i3 i4 i5 i6 i7 i9 j1 j2 j3 b0 b1 o p wr (HL.out wr hS.size) (ro.mono3 hS) (rp.mono3 hS))
    have c0:=hT.cell (j:=off + k * 16) (by omega) r0
    have c1:=hT.cell (j:=off + k * 16 + 1) (by omega) r1
    have c2:=hT.cell (j:=off + k * 16 + 2) (by omega) r2
    have c3:=hT.cell (j:=off + k * 16 + 3) (by omega) r3
    have c4:=hT.cell (j:=off + k * 16 + 4) (by omega) r4
    have c5:=hT.cell (j:=off + k * 16 + 5) (by omega) r5
    have c6:=hT.cell (j:=off + k * 16 + 6) (by omega) r6
    have c7:=hT.cell (j:=off + k * 16 + 7) (by omega) r7
    have c8:=hT.cell (j:=off + k * 16 + 8) (by omega) r8
    have c9:=hT.cell (j:=off + k * 16 + 9) (by omega) r9
    have c10:=hT.cell (j:=off + k * 16 + 10) (by omega) r10
    have c11:=hT.cell (j:=off + k * 16 + 11) (by omega) r11
    have c12:=hT.cell (j:=off + k * 16 + 12) (by omega) r12
    have c13:=hT.cell (j:=off + k * 16 + 13) (by omega) r13
    have c14:=hT.cell (j:=off + k * 16 + 14) (by omega) r14
    have c15:=hT.cell (j:=off + k * 16 + 15) (by omega) r15
    have H1:=hid hS
    have T1:=hid hT
    have R0:=hid r0
    have R1:=hid r1
    have R2:=hid r2
    have R3:=hid r3
    have R4:=hid r4
    have R5:=hid r5
    have R6:=hid r6
    have R7:=hid r7
    have R8:=hid r8
    have R9:=hid r9
    have R10:=hid r10
    have R11:=hid r11
    have R12:=hid r12
    have R13:=hid r13
    have R14:=hid r14
    have R15:=hid r15
    clear hS hT ro rp r0 r1 r2 r3 r4 r5 r6 r7 r8 r9 r10 r11 r12 r13 r14 r15
    go_wp2_with (go_at_call 81;(with_reducible refine (C.out).mono ?_);rintro e2 w2 ⟨rfl,S2⟩;have hbx2:=(S2.cellFar (o:=0) hsz nd np).trans hbx;have T2:=T1.out.sp S2 ndg.out.1 ndg.out.2;have f0:=T2.cell (j:=off + k * 16) (by omega) R0.out;have f1:=T2.cell (j:=off + k * 16 + 1) (by omega) R1.out;have f2:=T2.cell (j:=off + k * 16 + 2) (by omega) R2.out;have f3:=T2.cell (j:=off + k * 16 + 3) (by omega) R3.out;have f4:=T2.cell (j:=off + k * 16 + 4) (by omega) R4.out;have f5:=T2.cell (j:=off + k * 16 + 5) (by omega) R5.out;have f6:=T2.cell (j:=off + k * 16 + 6) (by omega) R6.out;have f7:=T2.cell (j:=off + k * 16 + 7) (by omega) R7.out;have f8:=T2.cell (j:=off + k * 16 + 8) (by omega) R8.out;have f9:=T2.cell (j:=off + k * 16 + 9) (by omega) R9.out;have f10:=T2.cell (j:=off + k * 16 + 10) (by omega) R10.out;have f11:=T2.cell (j:=off + k * 16 + 11) (by omega) R11.out;have f12:=T2.cell (j:=off + k * 16 + 12) (by omega) R12.out;have f13:=T2.cell (j:=off + k * 16 + 13) (by omega) R13.out;have f14:=T2.cell (j:=off + k * 16 + 14) (by omega) R14.out;have f15:=T2.cell (j:=off + k * 16 + 15) (by omega) R15.out;have z0:=T2.frozen (j:=off + k * 16);have z1:=T2.frozen (j:=off + k * 16 + 1);have z2:=T2.frozen (j:=off + k * 16 + 2);have z3:=T2.frozen (j:=off + k * 16 + 3);have z4:=T2.frozen (j:=off + k * 16 + 4);have z5:=T2.frozen (j:=off + k * 16 + 5);have z6:=T2.frozen (j:=off + k * 16 + 6);have z7:=T2.frozen (j:=off + k * 16 + 7);have z8:=T2.frozen (j:=off + k * 16 + 8);have z9:=T2.frozen (j:=off + k * 16 + 9);have z10:=T2.frozen (j:=off + k * 16 + 10);have z11:=T2.frozen (j:=off + k * 16 + 11);have z12:=T2.frozen (j:=off + k * 16 + 12);have z13:=T2.frozen (j:=off + k * 16 + 13);have z14:=T2.frozen (j:=off + k * 16 + 14);have z15:=T2.frozen (j:=off + k * 16 + 15);have Z2:=hid S2.size;have S3:=hid (H1.out.sp S2);have T3:=hid T2;clear S2 T2)
    go_roundw
    case rel=>exact ⟨k + 1,by omega,by go_num,((((((((((((((((S3.out.set HDG.out hp _ _).set HDG.out hp _ _).set HDG.out hp _ _).set HDG.out hp _ _).set HDG.out hp _ _).set HDG.out hp _ _).set HDG.out hp _ _).set HDG.out hp _ _).set HDG.out hp _ _).set HDG.out hp _ _).set HDG.out hp _ _).set HDG.out hp _ _).set HDG.out hp _ _).set HDG.out hp _ _).set HDG.out hp _ _).set HDG.out hp _ _),((((((((((((((((T3.out.set (j1:=off + (k + 1) * 16) (by omega) (by omega) _).set (Nat.le_refl _) (by omega) _).set (Nat.le_refl _) (by omega) _).set (Nat.le_refl _) (by omega) _).set (Nat.le_refl _) (by omega) _).set (Nat.le_refl _) (by omega) _).set (Nat.le_refl _) (by omega) _).set (Nat.le_refl _) (by omega) _).set (Nat.le_refl _) (by omega) _).set (Nat.le_refl _) (by omega) _).set (Nat.le_refl _) (by omega) _).set (Nat.le_refl _) (by omega) _).set (Nat.le_refl _) (by omega) _).set (Nat.le_refl _) (by omega) _).set (Nat.le_refl _) (by omega) _).set (Nat.le_refl _) (by omega) _),by (repeat rw [jZ (by omega)]);exact hbx2,by have:=Z2.out;simp [World.setCell];omega⟩
    case measure=>simp [intOf];omega
   ·go_wp2
    go_end0
    exact ⟨rfl,hS⟩
structure Un (D:Nat→Prop) (m:Nm) (h:Hp) (w:World):Prop where
 live : ∀ id k,h id = .live k → ¬ D (m.pl id).1
 imm : ∀ r g,(h r).imm→m.set r g → ¬ D g
 bound : ∀ g,D g→g < w.heap.size
theorem Un.ev {D:Nat→Prop} {m m' : Nm} {h h' : Hp} {w w' : World} (u:Un D m h w) (rel:Rel m h w) (ev:Ev m h w m' h' w') (np : ∀ r,h' r = .perm→h r ≠ .unused):Un D m' h' w' ∧ ∀ g,D g→w'.heap[g]?=w.heap[g]?:=by
 refine ⟨⟨fun id k hk=>?_,fun r g hr hs=>?_,fun g hg=>Nat.lt_of_lt_of_le (u.bound g hg) ev.size⟩,fun g hg=>ev.frame g (u.bound g hg) (fun id k hk e=>u.live id k hk (by rw [e];exact hg)) (fun r hr hs=>absurd hg (u.imm r g (by rw [hr];trivial) hs))⟩
 ·by_cases hu:h id = .unused
  ·rcases ev.new id k hu hk with hle|⟨i,k2,hi,e⟩|⟨r,hr,_,hs⟩
   ·exact fun hD=>by have:=u.bound _ hD;omega
   ·rw [← e];exact u.live i k2 hi
   ·exact u.imm r _ (by rw [hr];trivial) hs
  ·have hk2:=ev.kind id
   rw [hk] at hk2
   rw [ev.pl id hu]
   cases hh:h id with
   | live k0=>exact u.live id k0 hh
   | unused=>exact absurd hh hu
   | dead=>rw [hh] at hk2;exact hk2.elim
   | perm=>rw [hh] at hk2;exact hk2.elim
   | uniq=>rw [hh] at hk2;exact hk2.elim
 ·by_cases hu:h r = .unused
  ·cases hh:h' r with
   | perm=>exact absurd hu (np r hh)
   | uniq =>
     rcases ev.newU r g hu hh hs with hle|⟨i,k2,hi,e⟩|⟨r2,hr2,_,hs2⟩
     ·exact fun hD=>by have:=u.bound _ hD;omega
     ·rw [← e];exact u.live i k2 hi
     ·exact u.imm r2 _ (by rw [hr2];trivial) hs2
   | unused=>rw [hh] at hr;exact hr.elim
   | dead=>rw [hh] at hr;exact hr.elim
   | live k=>rw [hh] at hr;exact hr.elim
  ·have he:=Own.goes_imm (ev.kind r) hr hu
   rw [ev.set r hu] at hs
   exact u.imm r g (by rw [← he];exact hr) hs
section
variable {w w' : World}
theorem R.turnO {m:Nm} {h:Hp} (h1 : ∀ id k,h id = .live k→w'.heap[(m.pl id).1]?=w.heap[(m.pl id).1]?) (h2 : ∀ r g,(h r).imm→m.set r g→w'.heap[g]?=w.heap[g]?) {av:AV} {v:Value} (hR:R m h w av v):R m h w' av v:=by
 induction hR with
 | any v=>exact .any v
 | val v=>exact .val v
 | agg cs vs hl hc ih=>exact .agg cs vs hl ih
 | tup cs vs hl hc ih=>exact .tup cs vs hl ih
 | ptr b i j k hb=>exact .ptr b i j k hb
 | ptrD b i j v hb h1=>exact .ptrD b i j v hb h1
 | sl b i n k hb off cap hn hc hm ho hz=>exact .sl b i n k hb off cap hn hc hm ho fun cur e f hcur=>hz cur e f (by rw [← h1 b k hb];exact hcur)
 | slD b i n v hb h1=>exact .slD b i n v hb h1
 | nil r sz=>exact .nil r sz
 | emp r sz cap a hr hm=>exact .emp r sz cap a hr hm
 | gnil r sz=>exact .gnil r sz
 | gemp r sz a hr=>exact .gemp r sz a hr
 | glist r sz rows hr g off cap hg hc0 hm hw hz f hf hRR ih=>exact .glist r sz rows hr g off cap hg hc0 hm hw (fun c0 cur e2 f2 hc2=>hz c0 cur e2 f2 (by rw [← h2 r g hr hg];exact hc2)) f (fun i j row c a b=>(da (h2 r g hr hg)).trans (hf i j row c a b)) ih
 | glistD r sz rows v hr h1=>exact .glistD r sz rows v hr h1
 | list r sz rows hr g off cap hg hc0 hm hw f hf hRR ih=>exact .list r sz rows hr g off cap hg hc0 hm hw f (fun i j row c a b=>(da (h2 r g hr hg)).trans (hf i j row c a b)) ih
 | listD r sz rows v hr h1=>exact .listD r sz rows v hr h1
 | lptr r row j hr g off hg f hf hRR ih=>exact .lptr r row j hr g off hg f (fun j c a=>(da (h2 r g hr hg)).trans (hf j c a)) ih
 | lptrD r row j v hr h1=>exact .lptrD r row j v hr h1
 | clo f caps vs hl hc ih=>exact .clo f caps vs hl ih
theorem StR.spoilU {D:Nat→Prop} {m:Nm} {sl:List AV} {h:Hp} {a:Go.Act} (st:StR m sl h a w) (u:Un D m h w) (S:Sq D w w'):StR m sl h a w' := by
 have h1 : ∀ id k,h id = .live k→w'.heap[(m.pl id).1]?=w.heap[(m.pl id).1]?:=fun id k hk=>by
  obtain ⟨c,hc,_⟩:=st.rel.own id k hk
  exact S.far _ (Array.getElem?_eq_some_iff.1 hc).1 (u.live id k hk)
 have h2 : ∀ r g,(h r).imm→m.set r g→w'.heap[g]?=w.heap[g]?:=fun r g hr hs=>S.far _ (st.rel.bound r g hr hs) (u.imm r g hr hs)
 refine ⟨⟨fun id k hk=>?_,st.rel.sep,st.rel.sepR,st.rel.sepU,fun r g hr hg=>Nat.lt_of_lt_of_le (st.rel.bound r g hr hg) S.size,fun r g hr hg=>?_⟩,fun t=>(st.slots t).turnO h1 h2,st.len,st.defers⟩
 ·obtain ⟨cur,a,b,c,d⟩:=st.rel.own id k hk
  exact ⟨cur,by rw [h1 id k hk];exact a,b,c,fun i j row c e1 e2=>let ⟨v,p,q⟩:=d i j row c e1 e2;⟨v,p,q.turnO h1 h2⟩⟩
 ·obtain ⟨cur,e,a⟩:=st.rel.free r g hr hg
  exact ⟨cur,e,by rw [h2 r g (by rw [hr];trivial) hg];exact a⟩
end
def SDk (B:Base) (D:Nat→Prop):Prop := ∀ g,D g→B.w.heap.size≤g∨(∃ i k,B.h i = .live k∧(B.m.pl i).1=g) ∨ ∃ r,B.h r = .uniq∧B.m.set r g
theorem Base.evSpoil {B:Base} {D:Nat→Prop} {m:Nm} {h:Hp} {w w' : World} (ev:B.ev m h w) (S:Sq D w w') (u:Un D m h w) (sd:SDk B D):B.ev m h w' := by
 refine ⟨ev.pl,ev.set,ev.kind,Nat.le_trans ev.size S.size,fun id k k' a b cur e f hc=>ev.cells id k k' a b cur e f ?_,fun g hg ho hu=>?_,ev.new,ev.newU,S.os.trans ev.os,S.tape.trans ev.tape,S.output.trans ev.output⟩
 ·have hn:B.h id ≠ .unused:=by rw [a];simp
  obtain ⟨c0,e0,_⟩:=B.rel.own id k a
  have hlt:=Nat.lt_of_lt_of_le (Array.getElem?_eq_some_iff.1 e0).1 ev.size
  rw [← S.far _ hlt (by have:=u.live id k' b;rwa [ev.pl id hn] at this)]
  exact hc
 ·have hnd : ¬ D g:=fun hD=>by
   rcases sd g hD with hle|⟨i,k,hi,e⟩|⟨r,hr,hs⟩
   ·omega
   ·exact ho i k hi e
   ·have hn:B.h r ≠ .unused:=by rw [hr];simp
    exact u.imm r g (by rw [hu r hr hs];trivial) (by rw [ev.set r hn];exact hs) hD
  exact (S.far g (Nat.lt_of_lt_of_le hg ev.size) hnd).trans (ev.frame g hg ho hu)
theorem BySp.same {D:Nat→Prop} {w w' : World} {v:Value} (h:BySp D w v) (e : ∀ g,D g→w'.heap[g]?=w.heap[g]?):BySp D w' v:=by
 rcases h with h|h|⟨g,off,n,cap,cur,t,rfl,hd,h1,h2,h3,h4,h5⟩
 ·exact .inl h
 ·exact .inr (.inl h)
 ·exact .inr (.inr ⟨g,off,n,cap,cur,t,rfl,hd,h1,h2,h3,by rw [e g hd];exact h4,h5⟩)
abbrev DQ:=AExit→List AV→List Own→Prop
def AD (P:Program) (B:Base) (D:Nat→Prop) (V:Value→Prop) (c:Code) (Q:DQ) (sl:List AV) (h:List Own):Prop :=
 ∀ (m:Nm) (w:World) (a:Go.Act),StR m sl (ofL h) a w→B.ev m (ofL h) w→Un D m (ofL h) w→(∀ v,V v→BySp D w v) →
  c.wp P (fun x a' w' => ∃ x' sl' h' m', x=AExit.conc x' ∧ Q x' sl' h' ∧ StR m' sl' (ofL h') a' w' ∧ B.ev m' (ofL h') w' ∧ Un D m' (ofL h') w' ∧ ∀ v,V v→BySp D w' v) a w
def mO (N:List AV→List Own→Prop) (Q:DQ):DQ
 | .normal,sl,h=>N sl h
 | x,sl,h=>Q x sl h
def ADs (P:Program) (B:Base) (D:Nat→Prop) (V:Value→Prop):List Code→DQ→List AV→List Own→Prop
 | [],Q,sl,h=>Q .normal sl h
 | c::l,Q,sl,h=>AD P B D V c (mO (ADs P B D V l Q) Q) sl h
def qADs (P:Program) (B:Base) (D:Nat→Prop) (V:Value→Prop) (L:List Code) (Q:DQ) (sl:List AV) (h:List Own):Prop:=ADs P B D V L Q sl h
section
variable {P:Program} {B:Base} {D:Nat→Prop} {V:Value→Prop} {c:Code} {Q:DQ} {sl:List AV} {h:List Own}
theorem AD.mono (H:AD P B D V c Q sl h) {Q' : DQ} (hq : ∀ x sl h,Q x sl h→Q' x sl h):AD P B D V c Q' sl h:=fun m w a hs hev hu hv =>
 wp_mono (H m w a hs hev hu hv) fun x a' w' ⟨x', sl', h', m', h1,h2,h3⟩=>⟨x', sl', h', m', h1,hq _ _ _ h2,h3⟩
theorem AD.seqC {a b:Code} (H:AD P B D V a (mO (AD P B D V b Q) Q) sl h):AD P B D V (.seq a b) Q sl h:=fun m w ac hs hev hu hv=>by
 refine wp_seq (wp_mono (H m w ac hs hev hu hv) ?_)
 rintro x a' w' ⟨x', sl', h', m', rfl,hq,hs', ev,hu', hv'⟩
 cases x' with
 | normal=>exact hq m' w' a' hs' ev hu' hv'
 | exit id=>exact ⟨.exit id,sl', h', m', rfl,hq,hs', ev,hu', hv'⟩
 | goto l=>exact ⟨.goto l,sl', h', m', rfl,hq,hs', ev,hu', hv'⟩
 | ret=>exact ⟨.ret,sl', h', m', rfl,hq,hs', ev,hu', hv'⟩
theorem ADs.app' : ∀ (l1 l2:List Code) {Q:DQ} {sl:List AV} {h:List Own}, ADs P B D V (l1 ++ l2) Q sl h→ADs P B D V l1 (mO (ADs P B D V l2 Q) Q) sl h
 | [],l2,Q,sl,h,H=>H
 | c::l1,l2,Q,sl,h,H=>AD.mono H fun x sl h H=>by
  cases x with
  | normal=>exact ADs.app' l1 l2 H
  | exit id=>exact H
  | goto l' => exact H
  | ret=>exact H
theorem ADs.one (H:ADs P B D V [c] Q sl h):AD P B D V c Q sl h:=AD.mono H fun x sl h H=>by
 cases x<;>exact H
theorem ADs.spine : ∀ (c:Code) {Q:DQ} {sl:List AV} {h:List Own}, ADs P B D V (spine c) Q sl h→AD P B D V c Q sl h
 | .seq a b,Q,sl,h,H=>AD.seqC (AD.mono (ADs.spine a (ADs.app' _ _ H)) fun x sl h H=>by
  cases x with
  | normal=>exact ADs.spine b H
  | exit id=>exact H
  | goto l' => exact H
  | ret=>exact H)
 | .skip,Q,sl,h,H=>H.one
 | .label _,Q,sl,h,H=>H.one
 | .region .., Q,sl,h,H=>H.one
 | .cond .., Q,sl,h,H=>H.one
 | .block .., Q,sl,h,H=>H.one
 | .loop _,Q,sl,h,H=>H.one
 | .exit _,Q,sl,h,H=>H.one
 | .scope _,Q,sl,h,H=>H.one
 | .goto _,Q,sl,h,H=>H.one
 | .ret,Q,sl,h,H=>H.one
 | .rangeFunc .., Q,sl,h,H=>H.one
 | .refuse _,Q,sl,h,H=>H.one
theorem qADs.go (hm:P.follows .mixedOrders=true) {L:List Code} (H : ∀ B' : Base,B'.h=ofL h→ch sl fun sl=>cw h fun h0=>ev P B' c (fun x sl1 h1=>match x with
 | .normal => ∃ sl2 h2,qConv B' sl1 h1 sl2 h2∧(∀ r,ofL h2 r = .perm→ofL h r ≠ .unused)∧qADs P B D V L Q sl2 h2
 | x=>(∀ r,ofL h1 r = .perm→ofL h r ≠ .unused)∧Q x sl1 h1) sl h0):qADs P B D V (c::L) Q sl h:=by
 intro m w a hs hev hu hv
 have H' := H ⟨m,ofL h,w,hs.rel⟩ rfl
 simp only [bH,bZ] at H'
 refine wp_mono (bC hm c _ ⟨sl,h⟩ (dh c _ _ _ H') m w a hs (Ev.refl _ _ _)) fun x a' w' ⟨x', st', m', h1,h2,h3,h4⟩=>?_
 have fin : ∀ (m2:Nm) (sl2:List AV) (h2:List Own),StR m2 sl2 (ofL h2) a' w' → Ev m (ofL h) w m2 (ofL h2) w' → (∀ r,ofL h2 r = .perm→ofL h r ≠ .unused)→B.ev m2 (ofL h2) w' ∧ Un D m2 (ofL h2) w' ∧ ∀ v,V v→BySp D w' v:=fun m2 sl2 h2 _ e np=>by
  obtain ⟨u1,u2⟩:=hu.ev hs.rel e np
  exact ⟨Ev.trans B.rel hev e,u1,fun v hvv=>(hv v hvv).same u2⟩
 cases x' with
 | normal =>
   obtain ⟨sl2,h2', hc,np,hq⟩:=h2
   unfold qConv at hc
   obtain ⟨m2,s2,e2⟩:=hc m' w' a' h3 h4
   obtain ⟨a1,a2,a3⟩:=fin m2 sl2 h2' s2 e2 np
   exact ⟨.normal,sl2,h2', m2,h1,hq,s2,a1,a2,a3⟩
 | exit id=>obtain ⟨np,hq⟩:=h2;obtain ⟨a1,a2,a3⟩:=fin m' _ _ h3 h4 np;exact ⟨.exit id,_,_,m', h1,hq,h3,a1,a2,a3⟩
 | goto l=>obtain ⟨np,hq⟩:=h2;obtain ⟨a1,a2,a3⟩:=fin m' _ _ h3 h4 np;exact ⟨.goto l,_,_,m', h1,hq,h3,a1,a2,a3⟩
 | ret=>obtain ⟨np,hq⟩:=h2;obtain ⟨a1,a2,a3⟩:=fin m' _ _ h3 h4 np;exact ⟨.ret,_,_,m', h1,hq,h3,a1,a2,a3⟩
theorem qADs.spoil {id:Nat} {ops:List Oper} {L:List Code} {pre:List Oper} {o:Oper} {f:FuncId} {t:Tmp} {ts:Array TypeId} (hops:ops=pre ++ o::[]) (ho:o.op = .call { callee := .value (.func f),args := #[.tmp t],argTypes:=ts }) (hgd:o.guard=none) (hcall:cn P f)
 (hf : ∀ v w,BySp D w v→Calls P f #[v] w fun e w' => e = .returned (.tuple #[])∧Sp D (fun _=>False) w w') (sd:SDk B D)
 (H : ∀ B' : Base,B'.h=ofL h→ch sl fun sl=>cw h fun h0=>de P ops (fun _ sl1 h1=>(∀ r,ofL h1 r = .perm→ofL h r ≠ .unused) ∧ ∃ v,ae sl1 (.tmp t) = .val v∧V v∧frcL (aput sl1 o.dst (.val (.tuple #[]))) fun sl2=>qADs P B D V L Q sl2 h1) pre [] sl h0) :
 qADs P B D V (.region id ops.toArray false::L) Q sl h:=by
 intro m w a hs hev hu hv
 have H' := H ⟨m,ofL h,w,hs.rel⟩ rfl
 simp only [bH,bZ] at H'
 obtain ⟨ps,st1,hp,hk⟩:=cz _ _ _ _ (dy _ _ _ _ H')
 obtain ⟨p1,p2,p3,p4⟩:=lc (post:=[]) hops
 obtain ⟨np,v,hval,hV,hrest⟩:=hk
 rw [ca] at hrest
 refine wp_region ?_
 have key:wpOps P ops.toArray (fun x a' w' => ∃ x' sl' h' m', x=AExit.conc x' ∧ mO (ADs P B D V L Q) Q x' sl' h' ∧ StR m' sl' (ofL h') a' w' ∧ B.ev m' (ofL h') w' ∧ Un D m' (ofL h') w' ∧ ∀ v,V v→BySp D w' v) (List.range' 0 (ops.length - 0)) a w:=by
  refine Plan.lexTo hs.rel [o] pre 0 sl (ofL h) ps p4 hp m a w hs (Ev.refl _ _ _) fun m1 a1 w1 s1 e1=>?_
  obtain ⟨u1,u2⟩:=hu.ev hs.rel e1 np
  have hv1 : ∀ v,V v→BySp D w1 v:=fun v hvv=>(hv v hvv).same u2
  have ev1:B.ev m1 (ofL st1.h) w1:=Ev.trans B.rel hev e1
  have hm1:a1.eval (.tmp t)=v:=by
   have:=s1.slots.eval (.tmp t)
   rw [hval] at this
   exact this.val_inv
  rw [p2]
  simp only [wpOps,List.getElem?_toArray,p1]
  rw [dE (m:=m1) (h:=ofL st1.h) (w:=w1) (b:=true) (sl:=st1.sl) (by unfold awanted;rw [hgd]) (fun t _=>s1.slots t),if_pos rfl]
  left
  unfold Oper.wp
  have hc0 : ∀ args w,(callFunc f args).run P w = .ok (.enter f args) w:=hcall
  have hm2:(#[Operand.tmp t].map a1.eval) = #[v]:=by simp [hm1]
  have hx:(execOp a1.eval o).run P w1 = .ok (.enter f #[v]) w1:=by
   simp only [execOp,ho]
   simp [resolve,Act.eval,Deferred.ofValue,invoke,hc0]
   simpa [Act.eval] using hm1
  rw [hx,Oper.upon_enter]
  refine (hf v w1 (hv1 v hV)).mono ?_
  rintro e w2 ⟨rfl,S⟩
  have S2:Sq D w1 w2:=Sq.of S (fun g h=>h) (fun g h=>h.elim)
  have:ops.length - (pre.length + 1)=0:=by rw [hops];simp
  rw [this]
  have s2:=(s1.spoilU u1 S2).putV (d:=o.dst) (R.val (m:=m1) (h:=ofL st1.h) (w:=w2) (.tuple #[]))
  exact ⟨.normal,_,st1.h,m1,rfl,hrest,s2,Base.evSpoil ev1 S2 u1 sd,⟨u1.live,u1.imm,fun g hg=>Nat.lt_of_lt_of_le (u1.bound g hg) S2.size⟩,fun v hvv=>(hv1 v hvv).mono S⟩
 simpa [List.range_eq_range'] using key
theorem qADs.nil (H:Q .normal sl h):qADs P B D V [] Q sl h:=H
theorem qADs.block {i:Nat} {Lc L:List Code} (hL:Go.Proofs.YtceohcbokbalhaaGreat.spine c=Lc) (H:qADs P B D V Lc (fun x sl h=>match x with | .normal=>qADs P B D V L Q sl h | .exit j=>(if j=i then qADs P B D V L Q sl h else Q (.exit j) sl h)|x=>Q x sl h) sl h):qADs P B D V (.block i c::L) Q sl h:=by
 intro m w a hs hev hu hv
 have H' : AD P B D V c _ sl h:=ADs.spine c (by rw [hL];exact H)
 refine wp_block (wp_mono (H' m w a hs hev hu hv) ?_)
 rintro x a' w' ⟨x', sl', h', m', rfl,hq,hs', ev⟩
 cases x' with
 | normal=>exact ⟨.normal,sl', h', m', rfl,hq,hs', ev⟩
 | exit id' =>
   simp only [AExit.conc,Exit.inBlock]
   dsimp only at hq
   split
   ·rename_i e;rw [if_pos e] at hq;exact ⟨.normal,sl', h', m', rfl,hq,hs', ev⟩
   ·rename_i e;rw [if_neg e] at hq;exact ⟨.exit id', sl', h', m', rfl,hq,hs', ev⟩
 | goto l=>exact ⟨.goto l,sl', h', m', rfl,hq,hs', ev⟩
 | ret=>exact ⟨.ret,sl', h', m', rfl,hq,hs', ev⟩
theorem AD.loop {X:Type} {body:Code} {L:List Code} (hL:Go.Proofs.YtceohcbokbalhaaGreat.spine body=L) (F:X→List AV) (I:X→Prop) (μ:X→Nat) (x0:X) (hI:I x0)
 (round : ∀ E:DQ, ∀ x,I x→E=(fun x' sl' h' => match x' with | .normal=>h' = h ∧ ∃ y,I y∧μ y < μ x∧sl' = F y|x' => Q x' sl' h')→qADs P B D V L E (F x) h):AD P B D V (.loop body) Q (F x0) h:=by
 intro m w a hs hev hu hv
 refine wp_loop_rounds (μ x0 + 1) ?_
 have key : ∀ n x m w a,μ x < n→I x→StR m (F x) (ofL h) a w→B.ev m (ofL h) w→Un D m (ofL h) w→(∀ v,V v→BySp D w v)→Code.rounds P body (fun x a' w' => ∃ x' sl' h' m', x=AExit.conc x' ∧ Q x' sl' h' ∧ StR m' sl' (ofL h') a' w' ∧ B.ev m' (ofL h') w' ∧ Un D m' (ofL h') w' ∧ ∀ v,V v→BySp D w' v) n a w:=by
  intro n
  induction n with
  | zero=>intro x m w a h;omega
  | succ n ih =>
    intro x m w a hlt hx hs ev hu hv
    rw [rounds_succ]
    have R:=ADs.spine (P:=P) (B:=B) (D:=D) (V:=V) body (by rw [hL];exact round _ x hx rfl)
    refine wp_mono (R m w a hs ev hu hv) ?_
    rintro e a' w' ⟨e', sl', h', m', rfl,hq,hs', ev', hu', hv'⟩
    cases e' with
    | normal =>
      obtain ⟨rfl,y,hy,hm,rfl⟩:=hq
      exact ih y m' w' a' (by omega) hy hs' ev' hu' hv'
    | exit id=>exact ⟨.exit id,sl', h', m', rfl,hq,hs', ev', hu', hv'⟩
    | goto l=>exact ⟨.goto l,sl', h', m', rfl,hq,hs', ev', hu', hv'⟩
    | ret=>exact ⟨.ret,sl', h', m', rfl,hq,hs', ev', hu', hv'⟩
 exact key _ x0 m w a (by omega) hI hs hev hu hv
end
theorem Sq.refl (D:Nat→Prop) (w:World):Sq D w w:=⟨Nat.le_refl _,rfl,rfl,rfl,fun _ _ _=>rfl⟩
def dM (n sz:Nat) (f:Nat→Nat→Value):List (List AV):=(List.range n).map fun i=>(List.range sz).map fun j => .val (f i j)
theorem ma (n sz:Nat) (f:Nat→Nat→Value):(dM n sz f).length=n:=by simp [dM]
theorem ku {n sz i:Nat} {f:Nat→Nat→Value} (h:i < n):(dM n sz f)[i]?=some ((List.range sz).map fun j => .val (f i j)):=by simp [dM,h]
theorem R.vals {m:Nm} {h h' : Hp} {w:World} {r0 sz:Nat} {rows:List (List AV)} {v:Value} (hi:(h r0).imm) (hi' : (h' r0).imm) (hsz : ∀ row∈rows,row.length=sz) (hR:R m h w (.glist r0 sz rows) v) :
 ∃ f:Nat→Nat→Value,R m h' w (.glist r0 sz (dM rows.length sz f)) v ∧ ∀ (i j:Nat) (row:List AV) (c:AV),rows[i]?=some row→row[j]?=some c→R m h w c (f i j):=by
 rcases R.glist_inv hi hR with ⟨e,rfl⟩|⟨e,a,rfl⟩|⟨g,off,cap,rfl,hg,hc,hm,hw,hz,f,hf,hRR⟩
 ·subst e
  exact ⟨fun _ _=>undef,.gnil r0 sz,fun i j row c h1=>by simp at h1⟩
 ·subst e
  exact ⟨fun _ _=>undef,.gemp r0 sz a hi', fun i j row c h1=>by simp at h1⟩
 ·refine ⟨f,?_,hRR⟩
  have hlen:=ma rows.length sz f
  have:=R.glist (m:=m) (h:=h') (w:=w) r0 sz (dM rows.length sz f) hi' g off cap hg (by rw [hlen];exact hc) hm (fun row hrow=>by
   unfold dM at hrow
   rw [List.mem_map] at hrow
   obtain ⟨i,_,rfl⟩:=hrow
   simp) hz f (fun i j row c h1 h2=>by
    have hi:i < rows.length:=by
     rcases Nat.lt_or_ge i rows.length with h|h
     ·exact h
     ·rw [List.getElem?_eq_none (by rw [hlen];exact h)] at h1;cases h1
    rw [ku hi] at h1
    cases h1
    have hj:j < sz:=by
     rcases Nat.lt_or_ge j sz with h|h
     ·exact h
     ·rw [List.getElem?_eq_none (by simpa using h)] at h2;cases h2
    have hl:=hsz _ (List.getElem_mem hi)
    exact hf i j rows[i] rows[i][j] (List.getElem?_eq_getElem hi) (List.getElem?_eq_getElem (by omega))) (fun i j row c h1 h2=>by
    have hi:i < rows.length:=by
     rcases Nat.lt_or_ge i rows.length with h|h
     ·exact h
     ·rw [List.getElem?_eq_none (by rw [hlen];exact h)] at h1;cases h1
    rw [ku hi] at h1
    cases h1
    simp only [List.getElem?_map,Option.map_eq_some_iff] at h2
    obtain ⟨j', h3,rfl⟩:=h2
    have:j' = j:=by
     have h4:=List.getElem?_eq_some_iff.1 h3
     obtain ⟨h5,h6⟩:=h4
     simpa using h6.symm
    rw [this]
    exact .val _)
  rw [hlen] at this
  exact this
theorem qAW.ofD {P:Program} {B:Base} {c:Code} {Q:DQ} {sl:List AV} {h:List Own} (r0 r t:Nat) {L:List (Int × Sg)} (ht:sl[t]?=some (.glist r0 8 (L.map (snG r)))) (hr:ofL h r = .uniq) (hr0:ofL h r0 = .uniq) (hne:r0≠r) (hL : ∀ p∈L,p.2.data.length≤100000000)
 (H : ∀ (D:Nat→Prop) (f:Nat→Nat→Value),SDk B D→(∀ i,i < L.length → ∃ p n c,f i 7 = .slice p n c)→AD P B D (fun v => ∃ i,i < L.length∧v=f i 7) c Q (sl.set t (.glist r0 8 (dM L.length 8 f))) (setO h r .dead)):qAW P B c Q sl h:=by
 unfold qAW
 intro m w a hs hev
 have hrlt:r < h.length:=by
  rcases Nat.lt_or_ge r h.length with h1|h1
  ·exact h1
  ·simp [ofL,List.getD,List.getElem?_eq_none h1] at hr
 have hof:ofL (setO h r .dead)=(ofL h).upd r .dead:=nW (Nat.le_of_lt hrlt)
 have hup : ∀ id,id≠r→ofL (setO h r .dead) id=ofL h id:=fun id hid=>by rw [hof];exact Hp.upd_ne _ _ hid
 have hdead:ofL (setO h r .dead) r = .dead:=by rw [hof];exact Hp.upd_same _ _ _
 obtain ⟨rel', ev'⟩:=hs.rel.spoilQ (ofL (setO h r .dead)) (fun id=>by
  by_cases e:id=r
  ·subst e;exact .inr ⟨hr,hdead⟩
  ·exact .inl (hup id e)) (D:=m.set r) (fun g hg=>⟨r,hr,hdead,hg⟩) (Sq.refl _ _)
 have hv:=hs.slots t
 rw [List.getD_eq_getElem?_getD,ht,Option.getD_some] at hv
 have htl:=(List.getElem?_eq_some_iff.1 ht).1
 obtain ⟨f,hR,hf⟩:=R.vals (h' := ofL (setO h r .dead)) (by rw [hr0];trivial) (by rw [hup r0 hne,hr0];trivial) (fun row hrow=>by
  rw [List.mem_map] at hrow
  obtain ⟨p,_,rfl⟩:=hrow
  rfl) hv
 rw [List.length_map] at hR
 have hst:StR m (sl.set t (.glist r0 8 (dM L.length 8 f))) (ofL (setO h r .dead)) a w:=by
  refine ⟨rel', fun t' => ?_,by rw [List.length_set];exact hs.len,hs.defers⟩
  by_cases e:t' = t
  ·subst e
   rw [List.getD_eq_getElem?_getD,List.getElem?_set_self htl,Option.getD_some]
   exact hR
  ·rw [List.getD_eq_getElem?_getD,List.getElem?_set_ne (Ne.symm e), ← List.getD_eq_getElem?_getD]
   exact (hs.slots t').mono hs.rel ev'
 have hU:Un (m.set r) m (ofL (setO h r .dead)) w:=by
  refine ⟨fun id k hk=>?_,fun r' g hr' hs' hD=>?_,fun g hg=>hs.rel.bound r g (by rw [hr];trivial) hg⟩
  ·have hid:id≠r:=by rintro rfl;rw [hdead] at hk;cases hk
   rw [hup id hid] at hk
   exact hs.rel.sepR id k r hk (by rw [hr];trivial)
  ·have hid:r' ≠ r:=by rintro rfl;rw [hdead] at hr'; exact hr'
   rw [hup r' hid] at hr'
   exact hs.rel.sepU r r' g hr hr' (Ne.symm hid) hD hs'
 have sd:SDk B (m.set r):=fun g hg=>by
  by_cases hu:B.h r = .unused
  ·rcases hev.newU r g hu hr hg with hle|hl|⟨r2,a1,_,a3⟩
   ·exact .inl hle
   ·exact .inr (.inl hl)
   ·exact .inr (.inr ⟨r2,a1,a3⟩)
  ·have hk:=hev.kind r
   rw [hr] at hk
   have hB:B.h r = .uniq:=by
    cases hh:B.h r<;>rw [hh] at hk<;>first|rfl|exact absurd hh hu|exact hk.elim
   rw [hev.set r hu] at hg
   exact .inr (.inr ⟨r,hB,hg⟩)
 have hV : ∀ v,(∃ i,i < L.length∧v=f i 7)→BySp (m.set r) w v:=by
  rintro v ⟨i,hi,rfl⟩
  exact BySp.ofR hs.rel hr (hL _ (List.getElem_mem hi)) (hf i 7 (snG r L[i]) (gL r L[i].2.data) (by simp [hi]) rfl)
 refine wp_mono (H (m.set r) f sd (fun i hi=>(hV _ ⟨i,hi,rfl⟩).slice) m w a hst (Ev.trans B.rel hev ev') hU hV) fun x a' w' ⟨x', sl', h', m', h1,h2,h3,h4,_⟩=>⟨x', ⟨sl', h'⟩,m', h1,h2,h3,h4⟩
attribute [irreducible] qADs
theorem AD.cast {P:Program} {B:Base} {D:Nat→Prop} {V:Value→Prop} {c:Code} {Q:DQ} {sl sl' : List AV} {h h' : List Own} (e1:sl=sl') (e2:h=h') (H:AD P B D V c Q sl' h'):AD P B D V c Q sl h:=by
 subst e1 e2;exact H
theorem qConv.same {B:Base} {sl:List AV} {h:List Own} : qConv B sl h sl h:=by
 unfold qConv;exact ConvS.refl _ _
theorem gG {h h' : List Own} (e:h' = h) : ∀ r,ofL h' r = .perm→ofL h r ≠ .unused:=fun r a b=>by
 rw [e] at a;rw [a] at b;cases b
set_option maxHeartbeats 4000000
theorem PaSp.wider {D D' P:Nat→Prop} (hd : ∀ g,D g→D' g) {w:World} {v:Value} (h:PaSp D P w v):PaSp D' P w v:=by
 rcases h with h|h|⟨g,off,n,cap,cur,e,rfl,hp,h1,h2,h3⟩
 ·exact .inl h
 ·exact .inr (.inl h)
 ·exact .inr (.inr ⟨g,off,n,cap,cur,e,rfl,hp,h1,h2,fun k hk=>let ⟨x,u,a,b,c⟩:=h3 k hk;⟨x,u,a,b,c.wider hd⟩⟩)
theorem HdSp.ofR {m:Nm} {h:Hp} {w:World} (rel:Rel m h w) {r r' : Nat} (hr:h r = .uniq) (hr' : h r' = .uniq) {l:List Hd} (h0:l.length≤100000000) (hl : ∀ s∈l,s.data.length≤100000000) {v:Value} (hR:R m h w (.list r 3 (l.map (hdG r'))) v):HdSp (m.set r') (m.set r) w v:=by
 have lp:(l.map (hdG r')).length=l.length:=by simp
 generalize hrows:l.map (hdG r')=rows at hR lp
 cases hR with
 | nil=>exact .inl rfl
 | emp _ _ cap a hi hm=>exact .inr (.inl ⟨a,cap,rfl⟩)
 | listD _ _ _ _ hd _=>rw [hr] at hd;cases hd
 | list _ _ _ hi g off cap hg hc hm hw f hf hRR =>
   obtain ⟨cur,e,hcur⟩:=rel.free r g hr hg
   refine .inr (.inr ⟨g,off,rows.length,cap,cur,e,rfl,hg,by rw [lp];exact h0,hcur,fun k hk=>?_⟩)
   rw [lp] at hk
   have hrow:rows[k]?=some (hdG r' l[k]):=by rw [← hrows];simp [hk]
   have a0:=hf k 0 _ (.val (.int .i64 l[k].link)) hrow rfl
   have b0:=hRR k 0 _ (.val (.int .i64 l[k].link)) hrow rfl
   rw [b0.val_inv] at a0
   have a2:=hf k 2 _ (.val (.bool l[k].fin)) hrow rfl
   have b2:=hRR k 2 _ (.val (.bool l[k].fin)) hrow rfl
   rw [b2.val_inv] at a2
   have a1:=hf k 1 _ (gL r' l[k].data) hrow rfl
   have b1:=hRR k 1 _ (gL r' l[k].data) hrow rfl
   refine ⟨l[k].link,f k 1,l[k].fin,?_,?_,BySp.ofR rel hr' (hl _ (List.getElem_mem hk)) b1,?_⟩
   ·simpa [World.cell?,hcur] using a0
   ·simpa [World.cell?,hcur] using a1
   ·simpa [World.cell?,hcur] using a2
theorem qi (l:List Hd) (h0:l.length≤100000000) (hl : ∀ s∈l,s.data.length≤100000000):ACallL Tryz.prog 43 [.list 1 3 (l.map (hdG 2))] [.perm,.uniq,.uniq] (.tup []) [.perm,.dead,.dead]:=by
 refine ⟨fun a w=>Tryz.call43 a w,fun m w vs rel hl' => ?_⟩
 obtain ⟨v,rfl⟩ : ∃ v,vs = #[v]:=by
  obtain ⟨vs⟩:=vs
  match vs,hl'.1 with
  | [v],_=>exact ⟨v,rfl⟩
 have h1:=hl'.2 0 _ v rfl rfl
 have u1:ofL [.perm,.uniq,.uniq] 1 = .uniq:=rfl
 have u2:ofL [.perm,.uniq,.uniq] 2 = .uniq:=rfl
 refine (sX (m.set 2) (m.set 1) (fun g hg hd=>rel.sepU 2 1 g u2 (by rw [u1];trivial) (by decide) hd hg) v w (HdSp.ofR rel u1 u2 h0 hl h1)).mono fun e w' ⟨he,S⟩=>?_
 obtain ⟨r1,r2⟩:=rel.spoilQ (ofL [.perm,.dead,.dead]) (fun id=>by rcases id with _|_|_|id<;>first|exact .inl rfl|exact .inr ⟨rfl,rfl⟩) (D:=fun g=>m.set 2 g∨m.set 1 g) (fun g hg=>by rcases hg with h|h;exact ⟨2,rfl,rfl,h⟩;exact ⟨1,rfl,rfl,h⟩) (S.sq (fun g h => .inl h) (fun g h=>h.elim) (fun g h => .inr h))
 exact ⟨_,m,he,r1,r2,R.tup0⟩
theorem CosSp.ofR {m:Nm} {h:Hp} {w:World} (rel:Rel m h w) {r1 r2 r3 r4:Nat} (hr1:h r1 = .uniq) (hr2:h r2 = .uniq) (hr3:h r3 = .uniq) (hr4:h r4 = .uniq) {l:List Cn} (h0:l.length≤100000000) (hl : ∀ c∈l,aA c) {v:Value} (hR:R m h w (.list r1 16 (l.map (cnG r2 r3 r4))) v) :
 CosSp (fun g=>m.set r2 g∨m.set r4 g) (m.set r3) (m.set r1) w v:=by
 have lp:(l.map (cnG r2 r3 r4)).length=l.length:=by simp
 generalize hrows:l.map (cnG r2 r3 r4)=rows at hR lp
 cases hR with
 | nil=>exact .inl rfl
 | emp _ _ cap a hi hm=>exact .inr (.inl ⟨a,cap,rfl⟩)
 | listD _ _ _ _ hd _=>rw [hr1] at hd;cases hd
 | list _ _ _ hi g off cap hg hc hm hw f hf hRR =>
   obtain ⟨cur,e,hcur⟩:=rel.free r1 g hr1 hg
   refine .inr (.inr ⟨g,off,rows.length,cap,cur,e,rfl,hg,by rw [lp];exact h0,hcur,fun k hk=>?_⟩)
   rw [lp] at hk
   have hrow:rows[k]?=some (cnG r2 r3 r4 l[k]):=by rw [← hrows];simp [hk]
   have hlk:=hl _ (List.getElem_mem hk)
   have c0:cur[off + k * 16]?=some (.int .i64 l[k].link):=by
    have h1:=hf k 0 _ (.val (.int .i64 l[k].link)) hrow rfl
    have h2:=hRR k 0 _ (.val (.int .i64 l[k].link)) hrow rfl
    rw [h2.val_inv] at h1
    simpa [World.cell?,hcur] using h1
   have c1:cur[off + k * 16 + 1]?=some (.int .i64 l[k].ip):=by
    have h1:=hf k 1 _ (.val (.int .i64 l[k].ip)) hrow rfl
    have h2:=hRR k 1 _ (.val (.int .i64 l[k].ip)) hrow rfl
    rw [h2.val_inv] at h1
    simpa [World.cell?,hcur] using h1
   have c2:cur[off + k * 16 + 2]?=some (.int .i64 l[k].pp):=by
    have h1:=hf k 2 _ (.val (.int .i64 l[k].pp)) hrow rfl
    have h2:=hRR k 2 _ (.val (.int .i64 l[k].pp)) hrow rfl
    rw [h2.val_inv] at h1
    simpa [World.cell?,hcur] using h1
   have c3:cur[off + k * 16 + 3]?=some (.int .i64 l[k].port):=by
    have h1:=hf k 3 _ (.val (.int .i64 l[k].port)) hrow rfl
    have h2:=hRR k 3 _ (.val (.int .i64 l[k].port)) hrow rfl
    rw [h2.val_inv] at h1
    simpa [World.cell?,hcur] using h1
   have c4:cur[off + k * 16 + 4]?=some (.int .i64 l[k].st):=by
    have h1:=hf k 4 _ (.val (.int .i64 l[k].st)) hrow rfl
    have h2:=hRR k 4 _ (.val (.int .i64 l[k].st)) hrow rfl
    rw [h2.val_inv] at h1
    simpa [World.cell?,hcur] using h1
   have c5:cur[off + k * 16 + 5]?=some (.int .i64 l[k].una):=by
    have h1:=hf k 5 _ (.val (.int .i64 l[k].una)) hrow rfl
    have h2:=hRR k 5 _ (.val (.int .i64 l[k].una)) hrow rfl
    rw [h2.val_inv] at h1
    simpa [World.cell?,hcur] using h1
   have c6:cur[off + k * 16 + 6]?=some (.int .i64 l[k].nx):=by
    have h1:=hf k 6 _ (.val (.int .i64 l[k].nx)) hrow rfl
    have h2:=hRR k 6 _ (.val (.int .i64 l[k].nx)) hrow rfl
    rw [h2.val_inv] at h1
    simpa [World.cell?,hcur] using h1
   have c7:cur[off + k * 16 + 7]?=some (.int .i64 l[k].win):=by
    have h1:=hf k 7 _ (.val (.int .i64 l[k].win)) hrow rfl
    have h2:=hRR k 7 _ (.val (.int .i64 l[k].win)) hrow rfl
    rw [h2.val_inv] at h1
    simpa [World.cell?,hcur] using h1
   have c8:cur[off + k * 16 + 8]?=some (f k 8):=by
    have h1:=hf k 8 _ (gL r2 l[k].out) hrow rfl
    simpa [World.cell?,hcur] using h1
   have k8:=hRR k 8 _ (gL r2 l[k].out) hrow rfl
   have c9:cur[off + k * 16 + 9]?=some (.int .i64 l[k].inx):=by
    have h1:=hf k 9 _ (.val (.int .i64 l[k].inx)) hrow rfl
    have h2:=hRR k 9 _ (.val (.int .i64 l[k].inx)) hrow rfl
    rw [h2.val_inv] at h1
    simpa [World.cell?,hcur] using h1
   have c10:cur[off + k * 16 + 10]?=some (f k 10):=by
    have h1:=hf k 10 _ (.list r3 2 (l[k].parts.map (prg r4))) hrow rfl
    simpa [World.cell?,hcur] using h1
   have k10:=hRR k 10 _ (.list r3 2 (l[k].parts.map (prg r4))) hrow rfl
   have c11:cur[off + k * 16 + 11]?=some (.bool l[k].closing):=by
    have h1:=hf k 11 _ (.val (.bool l[k].closing)) hrow rfl
    have h2:=hRR k 11 _ (.val (.bool l[k].closing)) hrow rfl
    rw [h2.val_inv] at h1
    simpa [World.cell?,hcur] using h1
   have c12:cur[off + k * 16 + 12]?=some (.bool l[k].tm.on):=by
    have h1:=hf k 12 _ (.val (.bool l[k].tm.on)) hrow rfl
    have h2:=hRR k 12 _ (.val (.bool l[k].tm.on)) hrow rfl
    rw [h2.val_inv] at h1
    simpa [World.cell?,hcur] using h1
   have c13:cur[off + k * 16 + 13]?=some (.int .i64 l[k].tm.left):=by
    have h1:=hf k 13 _ (.val (.int .i64 l[k].tm.left)) hrow rfl
    have h2:=hRR k 13 _ (.val (.int .i64 l[k].tm.left)) hrow rfl
    rw [h2.val_inv] at h1
    simpa [World.cell?,hcur] using h1
   have c14:cur[off + k * 16 + 14]?=some (.int .i64 l[k].tm.wait):=by
    have h1:=hf k 14 _ (.val (.int .i64 l[k].tm.wait)) hrow rfl
    have h2:=hRR k 14 _ (.val (.int .i64 l[k].tm.wait)) hrow rfl
    rw [h2.val_inv] at h1
    simpa [World.cell?,hcur] using h1
   have c15:cur[off + k * 16 + 15]?=some (.int .i64 l[k].tm.tries):=by
    have h1:=hf k 15 _ (.val (.int .i64 l[k].tm.tries)) hrow rfl
    have h2:=hRR k 15 _ (.val (.int .i64 l[k].tm.tries)) hrow rfl
    rw [h2.val_inv] at h1
    simpa [World.cell?,hcur] using h1
   exact ⟨l[k].link,l[k].ip,l[k].pp,l[k].port,l[k].st,l[k].una,l[k].nx,l[k].win,f k 8,l[k].inx,f k 10,l[k].closing,l[k].tm.on,l[k].tm.left,l[k].tm.wait,l[k].tm.tries,c0,c1,c2,c3,c4,c5,c6,c7,c8,c9,c10,c11,c12,c13,c14,c15,(BySp.ofR rel hr2 hlk.1 k8).wider fun g h => .inl h,(PaSp.ofR rel hr3 hr4 hlk.2 k10).wider fun g h => .inr h⟩
theorem uP (l:List Cn) (cnt:Int) (h0:l.length≤100000000) (hl : ∀ c∈l,aA c):ACallL Tryz.prog 42 [.agg [.list 1 16 (l.map (cnG 2 3 4)),.val (.int .i64 cnt)]] [.perm,.uniq,.uniq,.uniq,.uniq] (.tup []) [.perm,.dead,.dead,.dead,.dead]:=by
 refine ⟨fun a w=>Tryz.call42 a w,fun m w vs rel hl' => ?_⟩
 obtain ⟨v,rfl⟩ : ∃ v,vs = #[v]:=by
  obtain ⟨vs⟩:=vs
  match vs,hl'.1 with
  | [v],_=>exact ⟨v,rfl⟩
 have hR:=hl'.2 0 _ v rfl rfl
 cases hR with
 | agg _ vs hle hcc =>
   obtain ⟨a,b,rfl⟩ : ∃ a b,vs = #[a,b]:=by
    obtain ⟨vs⟩:=vs
    match vs,hle with
    | [a,b],_=>exact ⟨a,b,rfl⟩
   have h1:=hcc 0 _ a rfl rfl
   have h2:=(hcc 1 _ b rfl rfl).val_inv
   subst h2
   have u1:ofL [.perm,.uniq,.uniq,.uniq,.uniq] 1 = .uniq:=rfl
   have u2:ofL [.perm,.uniq,.uniq,.uniq,.uniq] 2 = .uniq:=rfl
   have u3:ofL [.perm,.uniq,.uniq,.uniq,.uniq] 3 = .uniq:=rfl
   have u4:ofL [.perm,.uniq,.uniq,.uniq,.uniq] 4 = .uniq:=rfl
   have ne : ∀ {r r' : Nat} {g:Nat}, ofL [.perm,.uniq,.uniq,.uniq,.uniq] r = .uniq→ofL [.perm,.uniq,.uniq,.uniq,.uniq] r' = .uniq→r≠r' → m.set r g→m.set r' g→False:=fun h h' hn hs hs' => rel.sepU _ _ _ h (by rw [h'];trivial) hn hs hs'
   have bd : ∀ {r g:Nat}, ofL [.perm,.uniq,.uniq,.uniq,.uniq] r = .uniq→m.set r g→g < w.heap.size:=fun h hs=>rel.bound _ _ (by rw [h];trivial) hs
   refine (wN (fun g=>m.set 2 g∨m.set 4 g) (m.set 3) (m.set 1) (fun g hd hp=>by rcases hd with h|h;exact ne u2 u3 (by decide) h hp;exact ne u4 u3 (by decide) h hp)
    (fun g hg=>⟨fun hd=>by rcases hd with h|h;exact ne u2 u1 (by decide) h hg;exact ne u4 u1 (by decide) h hg,fun hp=>ne u3 u1 (by decide) hp hg⟩) cnt a w (fun g h=>by rcases h with (h|h)|h|h;exact bd u2 h;exact bd u4 h;exact bd u3 h;exact bd u1 h) (CosSp.ofR rel u1 u2 u3 u4 h0 hl h1)).mono fun e w' ⟨he,S⟩=>?_
   obtain ⟨r1,r2⟩:=rel.spoilQ (ofL [.perm,.dead,.dead,.dead,.dead]) (fun id=>by rcases id with _|_|_|_|_|id<;>first|exact .inl rfl|exact .inr ⟨rfl,rfl⟩) (D:=fun g=>(m.set 2 g∨m.set 4 g)∨m.set 3 g∨m.set 1 g)
    (fun g hg=>by rcases hg with (h|h)|h|h;exact ⟨2,rfl,rfl,h⟩;exact ⟨4,rfl,rfl,h⟩;exact ⟨3,rfl,rfl,h⟩;exact ⟨1,rfl,rfl,h⟩) (S.sq (fun g h => .inl h) (fun g h => .inr (.inl h)) (fun g h => .inr (.inr h)))
   exact ⟨_,m,he,r1,r2,R.tup0⟩
end Go.Proofs.YtceohcbokbalhaaGreat
/- Contracts and plain laws, one behind the other: AhPut, AhWin. Conditions are said at each. -/
import Derived.Test.YtceohcbokbalhaaGreatPkAB
namespace Go.Proofs.YtceohcbokbalhaaGreat
open Go.RowKit
set_option linter.unusedVariables false
set_option linter.unusedSimpArgs false
set_option maxRecDepth 100000
set_option maxHeartbeats 4000000
theorem slG' {P:Program} {o:Oper} {sl:List AV} {h:List Own} {t e:TypeId} {x:Operand} {rd:List (Nat × Own)} {r sz:Nat} {rows rows' : List (List AV)} {lo hi mx:Option Operand} {l hh mm:Option Int} (ho:o.op = .slice t x lo hi mx) (hx:ae sl x = .glist r sz rows) (hlo:abnd sl lo=some l) (hhi:abnd sl hi=some hh) (hmx:abnd sl mx=some mm) (he:bw P t=some e) (hs:aY P e=some sz) (hl:alive (ofL h) (.glist r sz rows)=some rd)
 (hc:0≤l.getD 0∧l.getD 0≤hh.getD rows.length∧hh.getD rows.length≤mm.getD rows.length∧mm.getD rows.length≤rows.length∧(mm=none∨hh≠none)) (hr:(rows.drop (l.getD 0).toNat).take (hh.getD rows.length - l.getD 0).toNat=rows'):aop P o sl h=some ⟨.list r sz rows', rd,[]⟩:=hr ▸ slG ho hx hlo hhi hmx he hs hl hc
theorem ry (rows:List (List AV)) (hr:RowsRen (qOf [] [(0,0),(1,1),(2,2),(3,3)] []) (ofL [.perm,.perm,.perm,.perm]) rows rows):ACallL Tryz.prog 155 [.list 1 2 rows] [.perm,.perm,.perm,.perm] (.list 1 2 rows) [.perm,.perm,.perm,.perm]:=by
 have hc:0≤(none:Option Int).getD 0∧(none:Option Int).getD 0≤(some (rows.length:Int)).getD (rows.length:Int)∧(some (rows.length:Int)).getD (rows.length:Int)≤(some (rows.length:Int)).getD (rows.length:Int)∧(some (rows.length:Int)).getD (rows.length:Int)≤(rows.length:Int)∧((some (rows.length:Int))=none∨(some (rows.length:Int))≠none):=by
  rw [Option.getD_some,Option.getD_none];exact ⟨by omega,by omega,by omega,by omega,.inr (by simp)⟩
 refine ACallL.of_ev af Tryz.func155 rfl (fun a w=>Tryz.call155 a w) (congrArg Array.toList Tryz.results155) Tryz.ntmps155 fun B hB=>?_
 ((conv=>whnf);(repeat' ((first|refine gT ?_|(with_reducible refine ab (fun _=>?_) (fun _=>?_))|(refine ak (slL rfl rfl rfl rfl rfl rfl rfl rfl hc) ?_))<;>(conv=>whnf))))
 all_goals (refine qcv hB [] [(0,0),(1,1),(2,2),(3,3)] [] ?_;repeat' (with_reducible first|exact trivial|refine And.intro ?_ ?_))
 all_goals first|rfl|(refine RowsRen.cast ?_ hr;simp)
def putR (n:Int) (ps l:List Pt):Int × List Pt × List Int :=
 match l with
 | []=>(n,ps,[])
 | p::t=>if p.1=n then (if 8 < t.length then (n,ps,[]) else (wadd n p.2.length,t,p.2)) else (if 8 < t.length + 1 then (n,ps,[]) else (n,p::t,[]))
abbrev mI (r r' t:Nat) (x:Int × List Pt × List Int):AV := .tup [.agg [.val (.int .i64 x.1),.list r 2 (x.2.1.map (prg r'))],gL t x.2.2]
theorem w9 (n s:Int) (ps:List Pt) (xs:List Int) (hn:0≤n∧n≤4294967295) (hs:0≤s∧s≤4294967295) (hx:xs.length≤65536) (h : ¬ max (ah s n) 0 < min (ah s n + xs.length) 2048) :
 ACallL Tryz.prog 147 [.agg [.val (.int .i64 n),.list 1 2 (ps.map (prg 2))],.val (.int .i64 s),bL 0 xs] [.perm,.uniq,.uniq] (mI 3 4 5 (n,ps,[])) [.perm,.dead,.dead,.uniq,.uniq,.uniq]:=by
 refine ACallL.of_ev af Tryz.func147 rfl (fun a w=>Tryz.call147 a w) (congrArg Array.toList Tryz.results147) Tryz.ntmps147 fun B hB=>?_
 ((conv=>whnf);(repeat' ((first|refine gT ?_|(with_reducible refine ab (fun _=>?_) (fun _=>?_)))<;>(conv=>whnf))))
 ((with_reducible refine qco (ss n s xs ps hn hs hx h) [] [(0,0),(1,1),(1,2)] [] [] [] (.tup [.val (.int .i64 0),.list 0 1 []]) ?_);refine sT ?_)
 ((conv=>whnf);(repeat' ((first|refine gT ?_|(with_reducible refine ab (fun _=>?_) (fun _=>?_)))<;>(conv=>whnf))))
 all_goals (refine qcv hB [] [(0,0),(1,3),(2,4)] [] ?_;repeat' (with_reducible first|exact trivial|refine And.intro ?_ ?_))
 all_goals first|rfl|(exact ao)
theorem ua (n s:Int) (ps:List Pt) (xs:List Int) (hn:0≤n∧n≤4294967295) (hs:0≤s∧s≤4294967295) (hx:xs.length≤65536) (hp:dq ps) (hin:kS n ps) (h:max (ah s n) 0 < min (ah s n + xs.length) 2048) (at_ fr le:Nat) (ha:(at_:Int)=max (ah s n) 0) (hf:(fr:Int)=max (ah s n) 0 - ah s n) (hle:(le:Int)=min (ah s n + xs.length) 2048 - max (ah s n) 0)
 (ys:List Int) (hys:ys=(xs.drop fr).take le) (p:Pt) (t:List Pt) (hl:az n (layW (layP n win0 ps) at_ ys) 0 2048=p::t) :
 ACallL Tryz.prog 147 [.agg [.val (.int .i64 n),.list 1 2 (ps.map (prg 2))],.val (.int .i64 s),bL 0 xs] [.perm,.uniq,.uniq] (mI 3 4 5 (putR n ps (p::t))) [.perm,.dead,.dead,.uniq,.uniq,.uniq]:=by
 have hyl:ys.length=le:=by rw [hys];simp;omega
 have hw:=oN n s xs ps hn hs hx h at_ fr le ha hf hle
 rw [← hys] at hw
 have hfi:=xy n ps at_ ys hp hin (by omega)
 obtain ⟨W,hW⟩ : ∃ W,layW (layP n win0 ps) at_ ys=W:=⟨_,rfl⟩
 have lW:W.length=2048:=by rw [← hW,eE,eB,ez]
 rw [hW] at hfi hl
 have hpa:=vR n W lW
 have htl:=dQ n W 0 2048
 rw [hl] at hpa htl
 have lh:List.take 2048 (List.drop 0 (W.map hasR))=W.map hasR:=by simp;exact List.take_of_length_le (by simp [lW])
 have la:List.take 2048 (List.drop 0 (W.map allR))=W.map allR:=by simp;exact List.take_of_length_le (by simp [lW])
 have lys:(ys.map bR).length=le:=by simp [hyl]
 have hle0 : ¬ le=0:=by omega
 have hle1 : ¬ (le:Int)=0:=by omega
 obtain ⟨j,d⟩:=p
 refine ACallL.of_ev af Tryz.func147 rfl (fun a w=>Tryz.call147 a w) (congrArg Array.toList Tryz.results147) Tryz.ntmps147 fun B hB=>?_
 ((conv=>whnf);(repeat' ((first|refine gT ?_|(with_reducible refine ab (fun _=>?_) (fun _=>?_)))<;>(conv=>whnf))))
 ((with_reducible refine qco (hw) [] [(0,0),(1,1),(1,2)] [] [] [] (.tup [.val (.int .i64 at_),bL 0 ys]) ?_);refine sT ?_)
 ((conv=>whnf);(repeat' ((first|refine gT ?_|((with_reducible refine ai ?_ ?_);focus (simp [lys,hyl,hle0];done))|((with_reducible refine aj ?_ ?_);focus (simp [lys,hyl,hle0];done))|(with_reducible refine ab (fun _=>?_) (fun _=>?_)))<;>(conv=>whnf))))
 ((with_reducible refine qco (hfi) [] [(0,0),(0,1),(0,2)] [] [(1,5),(2,6)] [(5,.live ⟨1,4,W.map hasR⟩),(6,.live ⟨1,5,W.map allR⟩)] (.tup [.sl 5 0 2048,.sl 6 0 2048]) ?_);refine sT ?_)
 ((conv=>whnf);(repeat' ((first|refine gT ?_|(with_reducible refine ab (fun _=>?_) (fun _=>?_)))<;>(conv=>whnf))))
 ((with_reducible refine qco (hpa) [] [(0,0)] [(0,5),(0,6)] [(1,7),(2,8),(3,9)] [(7,.uniq),(8,.uniq),(9,.uniq)] (.glist 7 2 (cv 8 9 ((j,d)::t))) ?_);refine sT ?_)
 by_cases hjn:j=n
 ·subst hjn
  have lt:(List.map (prg 9) t).length=t.length:=by simp
  have hcb:0≤(some (1:Int)).getD 0∧(some (1:Int)).getD 0≤(none:Option Int).getD ((prg 8 (j,d)::List.map (prg 9) t).length:Int)∧(none:Option Int).getD ((prg 8 (j,d)::List.map (prg 9) t).length:Int)≤(none:Option Int).getD ((prg 8 (j,d)::List.map (prg 9) t).length:Int)∧(none:Option Int).getD ((prg 8 (j,d)::List.map (prg 9) t).length:Int)≤((prg 8 (j,d)::List.map (prg 9) t).length:Int)∧((none:Option Int)=none∨(none:Option Int)≠none):=by
   rw [Option.getD_some,Option.getD_none];exact ⟨by omega,by simp;omega,by omega,by omega,.inl rfl⟩
  have hrr:((cv 8 9 ((j,d)::t)).drop ((some (1:Int)).getD 0).toNat).take ((none:Option Int).getD ((cv 8 9 ((j,d)::t)).length:Int) - (some (1:Int)).getD 0).toNat=t.map (prg 9):=by
   show ((prg 8 (j,d)::t.map (prg 9)).drop 1).take _=_
   rw [List.drop_one,List.tail_cons]
   exact List.take_of_length_le (by rw [Option.getD_none,eK];simp)
  by_cases h8:(8:Int) < t.length
  ·have h8n:8 < t.length:=by omega
   ((conv=>whnf);(repeat' ((first|refine gT ?_|((with_reducible refine ai ?_ ?_);focus (simp [h8];done))|((with_reducible refine aj ?_ ?_);focus (simp [h8];done))|(with_reducible refine ab (fun _=>?_) (fun _=>?_))|((with_reducible refine qcp (an _ _) ?_);refine pT ?_)|(refine ak (slG' rfl rfl rfl rfl rfl rfl rfl rfl hcb hrr) ?_))<;>(conv=>whnf))))
   rw [putR,if_pos rfl,if_pos h8n]
   (refine qcv hB [] [(0,0),(1,3),(2,4)] [] ?_;repeat' (with_reducible first|exact trivial|refine And.intro ?_ ?_))
   all_goals first|rfl|(exact ao)
  ·have h8n : ¬ 8 < t.length:=by omega
   ((conv=>whnf);(repeat' ((first|refine gT ?_|((with_reducible refine ai ?_ ?_);focus (simp [h8];done))|((with_reducible refine aj ?_ ?_);focus (simp [h8];done))|(with_reducible refine ab (fun _=>?_) (fun _=>?_))|((with_reducible refine qcp (an _ _) ?_);refine pT ?_)|(refine ak (slG' rfl rfl rfl rfl rfl rfl rfl rfl hcb hrr) ?_))<;>(conv=>whnf))))
   ((with_reducible refine qco (ry (t.map (prg 2)) (aI (by decide) t)) [] [(0,0),(1,7),(2,9)] [] [] [] (.list 7 2 (t.map (prg 9))) ?_);refine sT ?_)
   ((conv=>whnf);(repeat' ((first|refine gT ?_|(with_reducible refine ab (fun _=>?_) (fun _=>?_)))<;>(conv=>whnf))))
   rw [putR,if_pos rfl,if_neg h8n]
   (refine qcv hB [] [(0,0),(7,3),(9,4),(8,5)] [] ?_;repeat' (with_reducible first|exact trivial|refine And.intro ?_ ?_))
   all_goals first|rfl|(exact ao)|(simp;done)
 ·have hrf:(cv 8 9 ((j,d)::t)).length=t.length + 1:=by rw [eK];rfl
  by_cases h8:(8:Int) < t.length + 1
  ·have h8n:8 < t.length + 1:=by omega
   ((conv=>whnf);(repeat' ((first|refine gT ?_|((with_reducible refine ai ?_ ?_);focus (simp [hjn,hrf,h8];done))|((with_reducible refine aj ?_ ?_);focus (simp [hjn,hrf,h8];done))|(with_reducible refine ab (fun _=>?_) (fun _=>?_)))<;>(conv=>whnf))))
   rw [putR,if_neg hjn,if_pos h8n]
   (refine qcv hB [] [(0,0),(1,3),(2,4)] [] ?_;repeat' (with_reducible first|exact trivial|refine And.intro ?_ ?_))
   all_goals first|rfl|(exact ao)
  ·have h8n : ¬ 8 < t.length + 1:=by omega
   ((conv=>whnf);(repeat' ((first|refine gT ?_|((with_reducible refine ai ?_ ?_);focus (simp [hjn,hrf,h8];done))|((with_reducible refine aj ?_ ?_);focus (simp [hjn,hrf,h8];done))|(with_reducible refine ab (fun _=>?_) (fun _=>?_)))<;>(conv=>whnf))))
   ((with_reducible refine qco (ry (cv 2 3 ((j,d)::t)) (bx (by decide) (by decide) _)) [] [(0,0),(1,7),(2,8),(3,9)] [] [] [] (.list 7 2 (cv 8 9 ((j,d)::t))) ?_);refine sT ?_)
   ((conv=>whnf);(repeat' ((first|refine gT ?_|(with_reducible refine ab (fun _=>?_) (fun _=>?_)))<;>(conv=>whnf))))
   rw [putR,if_neg hjn,if_neg h8n]
   (refine qcv hB [] [(0,0),(7,3),(8,4),(9,4)] [] ?_;repeat' (with_reducible first|exact trivial|refine And.intro ?_ ?_))
   all_goals first|rfl|(exact ao)|(exact RowsRen.cons (.cons (.val _) (.cons (Ren.gg rfl d) .nil)) (aI rfl t))
theorem tg {w:Win} {i j:Nat} {c:Int} (h:isS w j=true):isS (lay1 w i c) j=true:=by
 unfold lay1
 split
 ·rename_i e
  by_cases hij:i=j
  ·subst hij
   simp only [isS,List.getD,e] at h
   cases h
  ·simp only [isS,List.getD] at h ⊢
   rw [List.getElem?_set_ne hij];exact h
 ·exact h
theorem l5 : ∀ (cs:List Int) {w:Win} {i j:Nat}, isS w j=true→isS (layW w i cs) j=true
 | [],w,i,j,h=>h
 | c::cs,w,i,j,h=>l5 cs (tg h)
theorem wh {w:Win} {i:Nat} {c:Int} (h:i < w.length):isS (lay1 w i c) i=true:=by
 unfold lay1
 split
 ·simp [isS,List.getD,h]
 ·rename_i e
  obtain ⟨o,ho⟩ : ∃ o,w[i]?=some o:=⟨_,List.getElem?_eq_getElem h⟩
  cases o with
  | none=>exact absurd ho e
  | some c=>simp [isS,List.getD,ho]
theorem vP {w:Win} {i:Nat} {c:Int} {cs:List Int} (h:i < w.length):isS (layW w i (c::cs)) i=true:=l5 cs (wh h)
theorem gj {nx:Int} {w:Win} {t i:Nat} (ht:t≤i) (hs:isS w i=true) : ∀ n,i < n→az nx w t n≠[]
 | 0,h=>by omega
 | n + 1,h=>by
   by_cases e:i=n
   ·subst e;exact fU ht hs
   ·have ih:=gj (nx:=nx) ht hs n (by omega)
    cases hn:isS w n with
    | false=>rw [cp hn];exact ih
    | true=>exact fU (by omega) hn
def addS (n:Int) (ps:List Pt) (s:Int) (xs:List Int):Int × List Pt × List Int :=
 if max (ah s n) 0 < min (ah s n + xs.length) 2048 then
  putR n ps (az n (layW (layP n win0 ps) (max (ah s n) 0).toNat ((xs.drop (max (ah s n) 0 - ah s n).toNat).take (min (ah s n + xs.length) 2048 - max (ah s n) 0).toNat)) 0 2048)
 else (n,ps,[])
theorem xM (n s:Int) (ps:List Pt) (xs:List Int) (hn:0≤n∧n≤4294967295) (hs:0≤s∧s≤4294967295) (hx:xs.length≤65536) (hp:dq ps) (hin:kS n ps) :
 ACallL Tryz.prog 147 [.agg [.val (.int .i64 n),.list 1 2 (ps.map (prg 2))],.val (.int .i64 s),bL 0 xs] [.perm,.uniq,.uniq] (mI 3 4 5 (addS n ps s xs)) [.perm,.dead,.dead,.uniq,.uniq,.uniq]:=by
 by_cases h:max (ah s n) 0 < min (ah s n + xs.length) 2048
 ·rw [addS,if_pos h]
  obtain ⟨at_,ha⟩ : ∃ a:Nat,(max (ah s n) 0).toNat=a:=⟨_,rfl⟩
  obtain ⟨fr,hf⟩ : ∃ a:Nat,(max (ah s n) 0 - ah s n).toNat=a:=⟨_,rfl⟩
  obtain ⟨le,hle⟩ : ∃ a:Nat,(min (ah s n + xs.length) 2048 - max (ah s n) 0).toNat=a:=⟨_,rfl⟩
  obtain ⟨ys,hys⟩ : ∃ ys,(xs.drop fr).take le=ys:=⟨_,rfl⟩
  rw [ha,hf,hle,hys]
  obtain ⟨p,t,hl⟩ : ∃ p t,az n (layW (layP n win0 ps) at_ ys) 0 2048=p::t:=by
   have hyl:ys.length=le:=by rw [← hys];simp;omega
   cases ys with
   | nil=>simp at hyl;omega
   | cons y ys =>
     have:=gj (nx:=n) (Nat.zero_le at_) (vP (w:=layP n win0 ps) (c:=y) (cs:=ys) (by rw [eB,ez];omega)) 2048 (by omega)
     cases hr:az n (layW (layP n win0 ps) at_ (y::ys)) 0 2048 with
     | nil=>exact absurd hr this
     | cons p t=>exact ⟨p,t,rfl⟩
  rw [hl]
  exact ua n s ps xs hn hs hx hp hin h at_ fr le (by omega) (by omega) (by omega) ys hys.symm p t hl
 ·rw [addS,if_neg h]
  exact w9 n s ps xs hn hs hx h
theorem ni (n:Int) : ∀ (ps:List Pt) (e:Int),0≤e→bG n e ps=true→kS n ps
 | [],_,_,_=>fun p hp=>by cases hp
 | p::ps,e,he,h=>by
   simp only [bG,d8,Bool.and_eq_true,decide_eq_true_eq] at h
   obtain ⟨⟨h1,h2,h3,h4,h5⟩,h6⟩:=h
   intro q hq
   rcases List.mem_cons.1 hq with rfl|hq
   ·exact ⟨by omega,by omega⟩
   ·exact ni n ps _ (by omega) h6 q hq
theorem eT {n:Int} {ps:List Pt} (h:mayB n ps=true):(0≤n∧n≤4294967295)∧ps.length≤8∧kS n ps:=by
 simp only [mayB,Bool.and_eq_true,decide_eq_true_eq] at h
 exact ⟨kf h.1,h.2.1,ni n ps 0 (Int.le_refl _) h.2.2⟩
abbrev at_ (w:Win) (i:Nat):Option Int:=w.getD i none
theorem ny (w:Win) (i:Nat):isS w i=(at_ w i).isSome:=rfl
theorem we {w:Win} {i:Nat} (h:isS w i=true):at_ w i=some ((vals w).getD i 0):=by
 simp only [isS,at_,List.getD,vals,List.getElem?_map] at h ⊢
 cases hw:w[i]? with
 | none=>rw [hw] at h;cases h
 | some o =>
   cases o with
   | none=>rw [hw] at h;cases h
   | some c=>rfl
theorem vt {w:Win} {i:Nat} (h:isS w i=true):i < w.length:=by
 rcases Nat.lt_or_ge i w.length with h' | h'
 ·exact h'
 ·simp [isS,List.getD,List.getElem?_eq_none h'] at h
theorem tQ (w:Win) (a:Nat) (c:Int) (i:Nat) (hi:i < w.length):at_ (lay1 w a c) i=(at_ w i).or (if i=a then some c else none):=by
 unfold lay1
 split
 ·rename_i e
  by_cases h:i=a
  ·subst h
   have hi' := (List.getElem?_eq_some_iff.1 e).1
   simp only [at_,List.getD,List.getElem?_set_self hi', e,if_true];rfl
  ·simp only [at_,List.getD,List.getElem?_set_ne (Ne.symm h),if_neg h,Option.or_none]
 ·rename_i e
  by_cases h:i=a
  ·subst h
   obtain ⟨o,ho⟩ : ∃ o,w[i]?=some o:=⟨_,List.getElem?_eq_getElem hi⟩
   cases o with
   | none=>exact absurd ho e
   | some c' => simp [at_,List.getD,ho]
  ·simp [if_neg h]
theorem fQ : ∀ (cs:List Int) (w:Win) (a i:Nat),i < w.length→at_ (layW w a cs) i=(at_ w i).or (if a≤i then cs[i - a]? else none)
 | [],w,a,i,hi=>by simp [layW]
 | c::cs,w,a,i,hi=>by
   rw [layW,fQ cs _ _ _ (by rw [ox];exact hi),tQ w a c i hi,Option.or_assoc]
   congr 1
   by_cases h:i=a
   ·subst h;simp
   ·by_cases h2:a≤i
    ·obtain ⟨k,hk⟩ : ∃ k,i - a=k + 1:=⟨i - a - 1,by omega⟩
     rw [if_neg h,if_pos (by omega),if_pos h2,hk,show i - (a + 1)=k by omega]
     simp
    ·rw [if_neg h,if_neg (by omega),if_neg h2];rfl
def getP (n:Int):List Pt→Nat→Option Int
 | [],_=>none
 | p::ps,i=>(if (ah p.1 n).toNat≤i then p.2[i - (ah p.1 n).toNat]? else none).or (getP n ps i)
theorem nj (n:Int) : ∀ (ps:List Pt) (w:Win) (i:Nat),i < w.length→at_ (layP n w ps) i=(at_ w i).or (getP n ps i)
 | [],w,i,hi=>by simp [layP,getP]
 | p::ps,w,i,hi=>by
   show at_ (layP n (layW w (ah p.1 n).toNat p.2) ps) i=_
   rw [nj n ps _ i (by rw [eE];exact hi),fQ _ _ _ _ hi,getP,Option.or_assoc]
theorem pB (i:Nat):at_ win0 i=none:=by
 unfold win0
 simp only [at_,List.getD,List.getElem?_replicate]
 split<;>rfl
theorem vO (n:Int) (ps:List Pt) (i:Nat) (hi:i < 2048):at_ (layP n win0 ps) i=getP n ps i:=by
 rw [nj n ps win0 i (by rw [ez];exact hi),pB];rfl
theorem ja {n:Int} : ∀ (ps:List Pt) (e:Int) (i:Nat),0≤e→bG n e ps=true→(i:Int)≤e→getP n ps i=none
 | [],e,i,_,_,_=>rfl
 | p::ps,e,i,he,h,hi=>by
   simp only [bG,d8,Bool.and_eq_true,decide_eq_true_eq] at h
   obtain ⟨⟨h1,h2,h3,h4,h5⟩,h6⟩:=h
   rw [getP,if_neg (by omega),ja ps _ i (by omega) h6 (by omega)]
   rfl
theorem qd {s n:Int} (hs:0≤s∧s≤4294967295):wadd n (ah s n)=s:=by
 unfold wadd ah
 omega
theorem gW {w:Win} {i:Nat} {o:Option Int} (h:at_ w i=o):isS w i=o.isSome:=by rw [ny,h]
theorem xh {w:Win} {j:Nat} {xs:List Int} (h : ∀ k,k < xs.length→at_ w (j + k)=xs[k]?):seg w j (j + xs.length)=xs:=by
 refine List.ext_getElem? fun k=>?_
 unfold seg
 rw [List.getElem?_take]
 by_cases hk:k < xs.length
 ·rw [if_pos (by omega),List.getElem?_drop]
  have h1:=h k hk
  rw [List.getElem?_eq_getElem hk] at h1 ⊢
  have h2:isS w (j + k)=true:=gW h1
  have h3:=we h2
  rw [h1] at h3
  have h4:j + k < (vals w).length:=by rw [dU];exact vt h2
  rw [List.getElem?_eq_getElem h4]
  simp only [List.getD,List.getElem?_eq_getElem h4,Option.getD_some] at h3
  exact h3.symm
 ·rw [if_neg (by omega),List.getElem?_eq_none (by omega)]
theorem jx {w:Win} {j m:Nat} (h:m≤w.length):(seg w j m).length=m - j:=by
 unfold seg
 simp [dU];omega
theorem jK (n:Int) (W:Win) (hW:W.length=2048) (t:Nat) : ∀ (ps pre:List Pt) (e:Nat),bG n e ps=true→t≤e→e≤2048→(∀ i,e≤i→i < 2048→at_ W i=getP n ps i)→az n W t e=pre→az n W t 2048=pre ++ ps
 | [],pre,e,_,ht,he,hg,hr=>by
   rw [dF 2048 he (fun i h1 h2=>by rw [gW (hg i h1 h2)];rfl),hr,List.append_nil]
 | (s,xs)::ps,pre,e,h,ht,he,hg,hr=>by
   simp only [bG,d8,Bool.and_eq_true,decide_eq_true_eq] at h
   obtain ⟨⟨h1,h2,h3,h4,h5⟩,h6⟩:=h
   obtain ⟨d,hd⟩ : ∃ d:Nat,ah s n=d:=⟨(ah s n).toNat,by omega⟩
   rw [hd] at h3 h5 h6
   have hx:0 < xs.length:=by omega
   have gd:(ah s n).toNat=d:=by omega
   have lo : ∀ i,e≤i→i < d→isS W i=false:=fun i a b=>by
    rw [gW (hg i a (by omega)),getP,gd,if_neg (by omega),ja ps _ i (by omega) h6 (by omega)]
    rfl
   have mid : ∀ k,k < xs.length→at_ W (d + k)=xs[k]?:=fun k hk=>by
    rw [hg (d + k) (by omega) (by omega),getP,gd,if_pos (by omega),show d + k - d=k by omega,List.getElem?_eq_getElem hk]
    rfl
   have r1:=dF (nx:=n) (w:=W) (t:=t) (j:=e) d (by omega) lo
   have r2:=dv (nx:=n) (w:=W) (t:=t) (j:=d) (by omega) (.inr (lo (d - 1) (by omega) (by omega))) (d + xs.length) (by omega) (by omega) (fun i a b=>by
    have hk:i - d < xs.length:=by omega
    rw [show i=d + (i - d) by omega,gW (mid (i - d) hk),List.getElem?_eq_getElem hk]
    rfl)
   rw [r1,hr,xh mid, ← hd,qd (kf h1)] at r2
   rw [jK n W hW t ps _ (d + xs.length) (by simpa using h6) (by omega) (by omega) (fun i a b=>by
    have hk:xs.length≤i - d:=by omega
    rw [hg i (by omega) b,getP,gd,if_pos (by omega),List.getElem?_eq_none hk]
    rfl) r2]
   simp
def lead:Win→Nat
 | some _::w=>lead w + 1
 | _=>0
theorem lI : ∀ w:Win,lead w≤w.length
 | []=>Nat.le_refl _
 | some _::w=>by have:=lI w;simp only [lead,List.length_cons];omega
 | none::w=>Nat.zero_le _
theorem kn : ∀ (w:Win) (i:Nat),i < lead w→isS w i=true
 | [],i,h=>by simp [lead] at h
 | some c::w,0,h=>rfl
 | some c::w,i + 1,h=>by
   have:=kn w i (by simp only [lead] at h;omega)
   simpa [isS,List.getD] using this
 | none::w,i,h=>by simp [lead] at h
theorem gY : ∀ w:Win,isS w (lead w)=false
 | []=>rfl
 | some c::w=>by
   have:=gY w
   simpa [isS,List.getD,lead] using this
 | none::w=>rfl
theorem pM {w:Win} {t:Nat} (h1 : ∀ i,i < t→isS w i=true) (h2:isS w t=false):lead w=t:=by
 rcases Nat.lt_trichotomy (lead w) t with h|h|h
 ·have:=h1 _ h;rw [gY] at this;cases this
 ·exact h
 ·have:=kn w t h;rw [h2] at this;cases this
theorem pS {w:Win} {i:Nat} (h:w.length≤i):isS w i=false:=by simp [isS,List.getD,List.getElem?_eq_none h]
def winS (n:Int) (ps:List Pt) (s:Int) (xs:List Int):Win :=
 layW (layP n win0 ps) (max (ah s n) 0).toNat ((xs.drop (max (ah s n) 0 - ah s n).toNat).take (min (ah s n + xs.length) 2048 - max (ah s n) 0).toNat)
theorem dk (n:Int) (ps:List Pt) (s:Int) (xs:List Int):(winS n ps s xs).length=2048:=by rw [winS,eE,eB,ez]
theorem iz (n:Int) (ps:List Pt) (s:Int) (xs:List Int) (i:Nat) (hi:i < 2048) :
 at_ (winS n ps s xs) i=(getP n ps i).or (if ah s n≤i∧(i:Int) - ah s n < xs.length then xs[((i:Int) - ah s n).toNat]? else none):=by
 rw [winS,fQ _ _ _ _ (by rw [eB,ez];exact hi),vO n ps i hi]
 congr 1
 have hd:=bY s n
 by_cases h:ah s n≤i∧(i:Int) - ah s n < xs.length
 ·rw [if_pos h,if_pos (by omega),List.getElem?_take,if_pos (by omega),List.getElem?_drop]
  congr 1
  omega
 ·rw [if_neg h]
  split
  ·rw [List.getElem?_eq_none]
   simp
   omega
  ·rfl
def reaS (n:Int) (ps:List Pt) (s:Int) (xs:List Int):Int × List Pt × List Int :=
 if 8 < (az n (winS n ps s xs) (lead (winS n ps s xs)) 2048).length then (n,ps,[]) else
  (wadd n (lead (winS n ps s xs)),az n (winS n ps s xs) (lead (winS n ps s xs)) 2048,seg (winS n ps s xs) 0 (lead (winS n ps s xs)))
theorem fg {nx:Int} {w:Win} {t:Nat} : ∀ {n:Nat} {p:Pt} {l:List Pt}, az nx w t n=p::l→isS w t=false → ∃ j:Nat,t < j∧j < n∧p.1=wadd nx j
 | 0,p,l,h,_=>by simp [az] at h
 | n + 1,p,l,h,h0=>by
   by_cases hn:n < t
   ·rw [cV nx w t _ (by omega)] at h;cases h
   ·cases hs:isS w n with
    | false=>rw [cp hs] at h;obtain ⟨j,a,b,c⟩:=fg h h0;exact ⟨j,a,by omega,c⟩
    | true =>
      have hnt:n≠t:=by rintro rfl;rw [h0] at hs;cases hs
      cases hp:isS w (n - 1) with
      | false =>
        rw [dl (by omega) hs (.inr hp)] at h
        cases hr:az nx w t n with
        | nil=>rw [hr] at h;simp at h;exact ⟨n,by omega,by omega,by rw [← h.1]⟩
        | cons q l' => rw [hr] at h;simp at h;obtain ⟨j,a,b,c⟩:=fg hr h0;exact ⟨j,a,by omega,by rw [← h.1];exact c⟩
      | true =>
        rw [dG (by omega) hs hp] at h
        cases hr:az nx w t n with
        | nil=>rw [hr] at h;simp [dJ] at h
        | cons q l' =>
          rw [hr] at h
          obtain ⟨j,a,b,c⟩:=fg hr h0
          cases l' with
          | nil=>simp [dJ] at h;exact ⟨j,a,by omega,by rw [← h.1];exact c⟩
          | cons r l'' => simp [dJ] at h;exact ⟨j,a,by omega,by rw [← h.1];exact c⟩
theorem qA {n:Int} (hn:0≤n∧n≤4294967295):wadd n 0=n:=by unfold wadd;omega
theorem wR {n:Int} (hn:0≤n∧n≤4294967295) {j:Nat} (h0:0 < j) (h1:j < 4294967296):wadd n j≠n:=by unfold wadd;omega
theorem pG {n:Int} {ps:List Pt} (h:mayB n ps=true):bG n 0 ps=true:=by
 simp only [mayB,Bool.and_eq_true] at h;exact h.2.2
theorem uy {n:Int} {ps:List Pt} (h:mayB n ps=true) (s:Int) (xs:List Int):addS n ps s xs=reaS n ps s xs:=by
 obtain ⟨hn,h8,hin⟩:=eT h
 have hg:=pG h
 obtain ⟨W,hW⟩ : ∃ W,winS n ps s xs=W:=⟨_,rfl⟩
 have lW:W.length=2048:=by rw [← hW,dk]
 by_cases hk:max (ah s n) 0 < min (ah s n + xs.length) 2048
 ·rw [addS,if_pos hk,reaS]
  have e:layW (layP n win0 ps) (max (ah s n) 0).toNat ((xs.drop (max (ah s n) 0 - ah s n).toNat).take (min (ah s n + xs.length) 2048 - max (ah s n) 0).toNat)=W:=hW
  rw [e,hW]
  have hl:=lI W
  have sp:=jR (nx:=n) (w:=W) (t:=lead W) (gY W) (kn W) hl 2048 (by omega)
  rw [sp]
  by_cases h0:lead W=0
  ·rw [if_pos h0,List.nil_append,h0]
   have hno:isS W 0=false:=by have:=gY W;rw [h0] at this;exact this
   cases hr:az n W 0 2048 with
   | nil =>
     exfalso
     have d0:=bY s n
     have g:=iz n ps s xs (max (ah s n) 0).toNat (by omega)
     rw [hW,if_pos (by omega),List.getElem?_eq_getElem (by omega)] at g
     have h2:isS W (max (ah s n) 0).toNat=true:=by
      rw [gW g];cases getP n ps (max (ah s n) 0).toNat<;>rfl
     exact gj (nx:=n) (Nat.zero_le _) h2 2048 (by omega) hr
   | cons p l =>
     obtain ⟨j,a,b,c⟩:=fg hr hno
     rw [putR,if_neg (by rw [c];exact wR hn a (by omega))]
     have e0:seg W 0 0=[]:=by simp [seg]
     rw [e0,show wadd n ((0:Nat):Int)=n from qA hn]
     rfl
  ·rw [if_neg h0]
   show putR n ps ((wadd n 0,seg W 0 (lead W))::az n W (lead W) 2048)=_
   rw [putR,if_pos (qA hn),jx hl]
   rfl
 ·rw [addS,if_neg hk,reaS]
  have d0:=bY s n
  have g : ∀ i,i < 2048→at_ W i=getP n ps i:=fun i hi=>by
   rw [← hW,iz n ps s xs i hi,if_neg (by omega),Option.or_none]
  have h0:lead W=0:=pM (fun i h=>by omega) (by rw [gW (g 0 (by omega)),ja ps 0 0 (Int.le_refl _) hg (by omega)];rfl)
  have r:=jK n W lW 0 ps [] 0 hg (Nat.le_refl _) (by omega) (fun i _ h=>g i h) rfl
  rw [hW,h0,r,List.nil_append,if_neg (by omega),show wadd n ((0:Nat):Int)=n from qA hn]
  simp [seg]
theorem kg (f:Nat→Bool) (b:Bool) (hi:Nat) : ∀ (k lo:Nat),hi - lo=k→lo≤hi → ∃ j,lo≤j∧j≤hi∧(∀ i,lo≤i→i < j→f i=b)∧(j < hi→f j = !b)
 | 0,lo,hk,h=>⟨lo,Nat.le_refl _,h,fun i a c=>by omega,fun a=>by omega⟩
 | k + 1,lo,hk,h=>by
   by_cases hf:f lo=b
   ·obtain ⟨j,a,c,d,e⟩:=kg f b hi k (lo + 1) (by omega) (by omega)
    refine ⟨j,by omega,c,fun i h1 h2=>?_,e⟩
    by_cases hi:i=lo
    ·rw [hi];exact hf
    ·exact d i (by omega) h2
   ·exact ⟨lo,Nat.le_refl _,h,fun i a c=>by omega,fun _=>by cases b<;>cases hv:f lo<;>simp_all⟩
theorem nr {nx:Int} {w:Win} {lo j:Nat} (hlo:lo≤j) (h : ∀ i,lo≤i→i < j→isS w i=false) : ∀ n,az nx w lo n=az nx w j n
 | 0=>rfl
 | n + 1=>by
   have ih:=nr (nx:=nx) hlo h n
   cases hs:isS w n with
   | false=>rw [cp hs,cp hs,ih]
   | true =>
     by_cases h1:n < lo
     ·rw [cV _ _ _ _ (by omega),cV _ _ _ _ (by omega)]
     ·have h2:j≤n:=by
       rcases Nat.lt_or_ge n j with h3|h3
       ·have:=h n (by omega) h3;rw [hs] at this;cases this
       ·exact h3
      cases hp:isS w (n - 1) with
      | false=>rw [dl (by omega) hs (.inr hp),dl h2 hs (.inr hp),ih]
      | true =>
        by_cases h3:n=j
        ·by_cases h4:lo=j
         ·rw [h4]
         ·have:=h (n - 1) (by omega) (by omega);rw [hp] at this;cases this
        ·rw [dG (by omega) hs hp,dG (by omega) hs hp,ih]
theorem kX {nx:Int} {w:Win} {j m:Nat} (hjm:j < m) (hs : ∀ i,j≤i→i < m→isS w i=true) (hm:isS w m=false) (hl:m≤w.length) : ∀ n,m≤n→az nx w j n=(wadd nx j,seg w j m)::az nx w m n
 | 0,h=>by omega
 | n + 1,h=>by
   by_cases e:n + 1=m
   ·have r:=dv (nx:=nx) (w:=w) (t:=j) (j:=j) (Nat.le_refl _) (.inl rfl) m hjm hl hs
    rw [e,r,cV nx w j j (Nat.le_refl _),cV nx w m m (Nat.le_refl _)]
    rfl
   ·have ih:=kX (nx:=nx) hjm hs hm hl n (by omega)
    cases hn:isS w n with
    | false=>rw [cp hn,cp hn,ih]
    | true =>
      have hnt:n≠m:=by rintro rfl;rw [hm] at hn;cases hn
      cases hp:isS w (n - 1) with
      | false=>rw [dl (by omega) hn (.inr hp),dl (by omega) hn (.inr hp),ih,List.cons_append]
      | true =>
        have h1:n - 1≠m:=by intro e2;rw [e2,hm] at hp;cases hp
        have hne:=fU (nx:=nx) (t:=m) (n:=n - 1) (by omega) hp
        rw [show n - 1 + 1=n by omega] at hne
        rw [dG (by omega) hn hp,dG (by omega) hn hp,ih]
        cases hr:az nx w m n with
        | nil=>exact absurd hr hne
        | cons q l=>rfl
inductive Runs (nx:Int) (w:Win):Nat→List Pt→Prop
 | nil (lo:Nat) (h : ∀ i,lo≤i→i < 2048→isS w i=false):Runs nx w lo []
 | cons (lo j m:Nat) (l:List Pt) (h1:lo≤j) (h2:j < m) (h3:m≤2048) (h4 : ∀ i,lo≤i→i < j→isS w i=false) (h5 : ∀ i,j≤i→i < m→isS w i=true) (h6:isS w m=false) (h7:Runs nx w m l):Runs nx w lo ((wadd nx j,seg w j m)::l)
theorem qh {nx:Int} {w:Win} (hw:w.length=2048) : ∀ (k lo:Nat),2048 - lo=k→lo≤2048→Runs nx w lo (az nx w lo 2048):=by
 intro k
 induction k using Nat.strongRecOn with
 | ind k ih =>
   intro lo hk hlo
   obtain ⟨j,a,b,c,d⟩:=kg (isS w) false 2048 _ lo rfl hlo
   rw [nr a c]
   rcases Nat.lt_or_ge j 2048 with hj|hj
   ·obtain ⟨m,a2,b2,c2,d2⟩:=kg (isS w) true 2048 _ j rfl b
    have hjm:j < m:=by
     rcases Nat.lt_or_ge j m with h|h
     ·exact h
     ·have:j=m:=by omega
      have h1:=d hj
      have h2:=d2 (by omega)
      rw [← this,h1] at h2;cases h2
    have hm:isS w m=false:=by
     rcases Nat.lt_or_ge m 2048 with h|h
     ·exact d2 h
     ·exact pS (by omega)
    rw [kX hjm c2 hm (by omega) 2048 b2]
    exact .cons lo j m _ a hjm b2 c c2 hm (ih (2048 - m) (by omega) m rfl b2)
   ·rw [cV _ _ _ _ hj]
    exact .nil lo fun i h1 h2=>c i h1 (by omega)
theorem qI (n:Int) {a b:Int} (h0:0≤a - b) (h1:a - b < 2147483648):ah (wadd n a) (wadd n b)=a - b:=by
 unfold ah wadd
 omega
theorem gr (a b:Int):am (wadd a b) 4294967295=true:=by
 have:=dK a b
 simp only [am,Bool.and_eq_true,decide_eq_true_eq]
 omega
theorem Runs.may {nx:Int} {w:Win} (hw:w.length=2048) {t:Nat} : ∀ {lo:Nat} {l:List Pt}, Runs nx w lo l→t≤lo→isS w lo=false→bG (wadd nx t) ((lo:Int) - t) l=true:=by
 intro lo l h
 induction h with
 | nil lo h=>intro _ _;rfl
 | cons lo j m l h1 h2 h3 h4 h5 h6 h7 ih =>
   intro ht h0
   have hlj:lo < j:=by
    rcases Nat.lt_or_ge lo j with h|h
    ·exact h
    ·have:lo=j:=by omega
     subst this
     have:=h5 lo (Nat.le_refl _) h2
     rw [h0] at this;cases this
   have e:=qI nx (a:=j) (b:=t) (by omega) (by omega)
   have sl:=jx (w:=w) (j:=j) (m:=m) (by omega)
   rw [bG,d8,gr,e,sl]
   have:=ih (by omega) h6
   rw [show ((j:Int) - t + ((m - j:Nat):Int))=(m:Int) - t by omega,this]
   simp only [Bool.true_and,Bool.and_true,Bool.and_eq_true,decide_eq_true_eq]
   exact ⟨by omega,by omega,by omega,by omega⟩
end Go.Proofs.YtceohcbokbalhaaGreat
/- The page's own window on data: kioskref12.Reasm. Condition: the buffer may be. -/
import Derived.Test.YtceohcbokbalhaaGreatPkAC
import Derived.Test.YtceohcbokbalhaaGreatAhiC
namespace Go.Proofs.YtceohcbokbalhaaGreat
open Go.RowKit
set_option linter.unusedVariables false
set_option linter.unusedSimpArgs false
set_option maxRecDepth 100000
set_option maxHeartbeats 4000000
theorem pr {w v:Win} (hl:w.length=v.length) (h : ∀ i,i < w.length→at_ w i=at_ v i):w=v:=by
 refine List.ext_getElem hl fun i h1 h2=>?_
 have:=h i h1
 simp only [at_,List.getD,List.getElem?_eq_getElem h1,List.getElem?_eq_getElem h2,Option.getD_some] at this
 exact this
theorem xH {w:Win} {i j:Nat} {o:Option Int} (hi:i < w.length):at_ (w.set i o) j=if j=i then o else at_ w j:=by
 by_cases h:j=i
 ·subst h;rw [if_pos rfl];simp only [at_,List.getD,List.getElem?_set_self hi,Option.getD_some]
 ·rw [if_neg h];simp only [at_,List.getD,List.getElem?_set_ne (Ne.symm h)]
theorem tI (n:Int) (ps:List Pt) (s:Int):winS n ps s []=layP n win0 ps:=by
 unfold winS
 simp [layW]
section
variable {n s:Int} {ps:List Pt} {xs:List Int} {k:Nat} {x:Int}
theorem pO (hk:xs[k]?=some x) {i:Nat} (hi:i < 2048):at_ (winS n ps s (xs.take (k + 1))) i=(at_ (winS n ps s (xs.take k)) i).or (if (i:Int)=ah s n + k then some x else none):=by
 have hlt:k < xs.length:=(List.getElem?_eq_some_iff.1 hk).1
 rw [iz _ _ _ _ _ hi,iz _ _ _ _ _ hi,Option.or_assoc]
 congr 1
 have l1:(xs.take (k + 1)).length=k + 1:=by simp;omega
 have l0:(xs.take k).length=k:=by simp;omega
 rw [l1,l0]
 by_cases h1:(i:Int)=ah s n + k
 ·rw [if_pos (by omega),if_neg (by omega),if_pos h1,show ((i:Int) - ah s n).toNat=k by omega,List.getElem?_take,if_pos (by omega),hk];rfl
 ·rw [if_neg h1]
  by_cases h2:ah s n≤i∧(i:Int) - ah s n < k
  ·rw [if_pos (by omega),if_pos h2,List.getElem?_take,List.getElem?_take,if_pos (by omega),if_pos (by omega),Option.or_none]
  ·rw [if_neg (by omega),if_neg h2];rfl
theorem uW (hk:xs[k]?=some x) {i:Nat} (hi:i < 2048) (he:(i:Int)=ah s n + k) (hn:at_ (winS n ps s (xs.take k)) i=none):winS n ps s (xs.take (k + 1))=(winS n ps s (xs.take k)).set i (some x):=by
 refine pr (by simp [dk]) fun j hj=>?_
 rw [dk] at hj
 rw [pO hk hj,xH (by rw [dk];exact hi)]
 by_cases hj2:j=i
 ·subst hj2;rw [hn,if_pos he,if_pos rfl];rfl
 ·rw [if_neg (by omega),if_neg hj2,Option.or_none]
theorem md (hk:xs[k]?=some x) (h : ∀ i:Nat,i < 2048→(i:Int)=ah s n + k→isS (winS n ps s (xs.take k)) i=true):winS n ps s (xs.take (k + 1))=winS n ps s (xs.take k):=by
 refine pr (by simp [dk]) fun j hj=>?_
 rw [dk] at hj
 rw [pO hk hj]
 by_cases h2:(j:Int)=ah s n + k
 ·have:=h j hj h2
  rw [ny] at this
  cases ha:at_ (winS n ps s (xs.take k)) j with
  | none=>rw [ha] at this;cases this
  | some c=>rfl
 ·rw [if_neg h2,Option.or_none]
end
def hasX (w:Win):List (List AV):=w.map hasR ++ [[.val (.bool false)]]
theorem fT {w:Win} {i:Nat} (hi:i≤w.length):(hasX w)[i]?=some [.val (.bool (isS w i))]:=by
 unfold hasX
 rcases Nat.lt_or_ge i w.length with h|h
 ·rw [List.getElem?_append_left (by simpa using h)]
  simp [isS,List.getD,h]
 ·have e:i=w.length:=by omega
  rw [List.getElem?_append_right (by simp;omega),pS (by omega),e]
  simp
theorem m9 {w:Win} {i:Nat} (hi:i < w.length) (c:Int):(hasX w).set i [.val (.bool true)]=hasX (w.set i (some c)):=by
 unfold hasX
 rw [List.set_append_left _ _ (by simpa using hi),List.map_set];rfl
theorem ou {w:Win} {i:Nat} (c:Int):(w.map allR).set i [.val (.int .u8 c)]=(w.set i (some c)).map allR:=by rw [List.map_set];rfl
theorem aE {q:Rn} {h:Hp} {rows:List (List AV)} {w:Win} (e:rows=hasX w):RowsRen q h rows (hasX w):=RowsRen.vals e (by simp [hasX,AV.isVal])
theorem aD {q:Rn} {h:Hp} {rows:List (List AV)} {w:Win} (e:rows=w.map allR):RowsRen q h rows (w.map allR):=RowsRen.vals e (by simp [AV.isVal])
theorem bM:List.replicate 2049 [AV.val (.bool false)]=hasX win0:=by
 unfold hasX win0
 rw [List.replicate_succ']
 simp
theorem kc {w:Win} {i:Nat} (hi:i < w.length):(w.map allR)[i]?=some [.val (.int .u8 ((vals w).getD i 0))]:=by
 simp [vals,List.getD,hi]
abbrev vd (p:Option (List Pt × Pt)):List Pt:=match p with|none=>[]|some (l,q)=>l ++ [q]
abbrev mJ (p:Option (List Pt × Pt)):AV:=match p with|none => .val (.slice none 0 0)|some (l,q) => .sl 7 0 (l.length + 1)
theorem qF {n:Int} {ps:List Pt} {k:Nat} {s:Int} {xs:List Int} {e:Int} (hp:ps[k]?=some (s,xs)) (hg:bG n e (ps.drop k)=true) (he:0≤e):(e < ah s n∧ah s n + xs.length≤2048)∧bG n (ah s n + xs.length) (ps.drop (k + 1))=true:=by
 rw [bI hp,bG,d8] at hg
 simp only [Bool.and_eq_true,decide_eq_true_eq] at hg
 obtain ⟨⟨h1,h2,h3,h4,h5⟩,h6⟩:=hg
 exact ⟨⟨h3,by omega⟩,h6⟩
theorem Ren.pll {L I F:Prs} {h:Hp} {r r' d d' : Nat} (h0:I.has r r' = true) (h1:I.has d d' = true) (ps:List Pt):Ren (qOf L I F) h (.list r 2 (ps.map (prt d))) (.list r' 2 (ps.map (prt d'))):=by
 obtain ⟨a,b,c⟩:=br (L:=L) (F:=F) (h:=h) h1 ps
 exact .list _ _ _ _ _ ((Prs.has_iff I r r').1 h0) a b c
theorem Ren.fz1 {L I F:Prs} {h:Hp} {b r:Nat} {e:TypeId} {c:Int} (h0:F.has b r=true) (hb:h b = .live ⟨1,e,[bR c]⟩):Ren (qOf L I F) h (.sl b 0 1) (gL r [c]):=by
 refine .frzg b r 0 1 _ _ ((Prs.has_iff F b r).1 h0) hb rfl (fun i row row' a b=>?_) (fun i j row row' c1 c2 a b d e=>?_)
 ·rcases i with _|i<;>simp at a b
  subst a b;rfl
 ·rcases i with _|i<;>simp at a b
  subst a b
  rcases j with _|j<;>simp at d e
  subst d e
  exact .val _
theorem xU {s n q:Int} {j i:Nat} (hq2:q=(woff s n + j) % 4294967296) (hj:j < 65536) (h0:q=i) (hi:i < 2048):(i:Int)=ah s n + j:=by
 have hod:=gR s n
 have hwd:=bY s n
 generalize woff s n=a at *
 generalize ah s n=b at *
 split at hod<;>omega
theorem xD {s n q:Int} {j i:Nat} (hq2:q=(woff s n + j) % 4294967296) (hj:j < 65536) (hql : ¬ q < 2048) (hi:i < 2048) (h:(i:Int)=ah s n + j):False:=by
 have hod:=gR s n
 have hwd:=bY s n
 generalize woff s n=a at *
 generalize ah s n=b at *
 split at hod<;>omega
theorem lf (nx:Int) (w:Win) (t:Nat) : ∀ n, ∀ p∈az nx w t n,p.2.length≤n
 | 0=>fun p hp=>by simp [az] at hp
 | n + 1=>fun p hp=>by
   have ih:=lf nx w t n
   by_cases hn:n < t
   ·rw [cV nx w t _ (by omega)] at hp;cases hp
   ·cases hs:isS w n with
    | false=>rw [cp hs] at hp;have:=ih p hp;omega
    | true =>
      by_cases hc:t < n∧isS w (n - 1)=true
      ·rw [dG hc.1 hs hc.2] at hp
       rcases List.eq_nil_or_concat (az nx w t n) with e|⟨l,q,e⟩
       ·rw [e] at hp;cases hp
       ·rw [e] at hp ih
        simp only [List.concat_eq_append] at hp ih
        rw [db] at hp
        rcases List.mem_append.1 hp with h|h
        ·have:=ih p (List.mem_append_left _ h);omega
        ·have hq:=ih q (by simp)
         simp at h;subst h;simp;omega
      ·rw [dl (by omega) hs (by
        by_cases h1:t=n
        ·exact .inl h1
        ·right
         cases h2:isS w (n - 1) with
         | false=>rfl
         | true=>exact absurd ⟨by omega,h2⟩ hc)] at hp
       rcases List.mem_append.1 hp with h|h
       ·have:=ih p h;omega
       ·simp at h;subst h;simp
abbrev mH (p:Option (List Pt × Pt)):Own:=match p with|none => .unused|some (l,q) => .live ⟨2,88,l.map (prg 8) ++ [prg 9 q]⟩
theorem wM (n s:Int) (ps:List Pt) (xs:List Int) (hp:dq ps) (hm:mayB n ps=true) (hs:0≤s∧s≤4294967295) (hx:xs.length≤65536) (res:AV)
 (hr:res=if 8 < (az n (winS n ps s xs) (lead (winS n ps s xs)) 2048).length then .tup [.agg [.val (.int .i64 n),.list 1 2 (ps.map (prt 2))],.val (.slice none 0 0)]
  else .tup [.agg [.val (.int .i64 (wadd n (lead (winS n ps s xs)))),.list 3 2 ((az n (winS n ps s xs) (lead (winS n ps s xs)) 2048).map (prg 4))],gL 5 (seg (winS n ps s xs) 0 (lead (winS n ps s xs)))]) :
 ACallL Tryz.prog 110 [.agg [.val (.int .i64 n),.list 1 2 (ps.map (prt 2))],.val (.int .i64 s),bL 0 xs] [.perm,.perm,.perm] res [.perm,.perm,.perm,.uniq,.uniq,.uniq]:=by
 obtain ⟨hl,hb⟩:=hp
 obtain ⟨hn,h8,hin⟩:=eT hm
 have hgo:=pG hm
 have lx:(xs.map bR).length=xs.length:=by simp
 have hlen:(ps.map (prt 2)).length=ps.length:=by simp
 refine ACallL.of_ev af Tryz.func110 rfl (fun a w=>Tryz.call110 a w) (congrArg Array.toList Tryz.results110) Tryz.ntmps110 fun B hB=>?_
 ((conv=>whnf);(repeat' ((first|refine gT ?_|(with_reducible refine ab (fun _=>?_) (fun _=>?_)))<;>(conv=>whnf))))
 refine qAW.loopE af (X:=Nat × Int) (fun x=>ap 167 [(1,.val (.int .i64 s)),(2,bL 0 xs),(3,.ptr 3 0 0),(6,.ptr 4 0 0),(7,.val (.slice none 0 0)),(8,.sl 5 0 2049),(9,.sl 6 0 2048),(10,.val (.int .i64 x.1))])
  (fun x=>[.perm,.perm,.perm,.live ⟨2,46,[[.val (.int .i64 n),.list 1 2 (ps.map (prt 2))]]⟩,.live ⟨2,46,[[.val (.int .i64 0),.val (.slice none 0 0)]]⟩,.live ⟨1,4,hasX (layP n win0 (ps.take x.1))⟩,.live ⟨1,5,(layP n win0 (ps.take x.1)).map allR⟩])
  (fun x=>(x.1≤ps.length∧0≤x.2)∧bG n x.2 (ps.drop x.1)=true ∧ ∀ i:Nat,x.2≤i→i < 2048→at_ (layP n win0 (ps.take x.1)) i=none) (fun x=>ps.length - x.1) (0,0) ⟨⟨Nat.zero_le _,Int.le_refl _⟩,hgo,fun i _ _=>pB i⟩ ?_ ?_
 ·have w:=hn
  (refine qcv hB [(3,3),(4,4),(5,5),(6,6)] [(0,0),(1,1),(2,2)] [] ?_;repeat' (with_reducible first|exact trivial|refine And.intro ?_ ?_))
  all_goals first|rfl|(with_reducible exact aE rfl)|(with_reducible exact aD rfl)|(exact ao)|exact aE bM|exact aD bi.symm|exact aM rfl rfl|exact RowsRen.one (.cons (.val _) (.cons (Ren.pll rfl rfl ps) .nil))|(simp [w];done)|skip
 ·rintro E ⟨k,e⟩ ⟨⟨hk,he⟩,hgk,hnone⟩ hE
  dsimp only at hk he hgk hnone ⊢
  obtain ⟨w1,hw1⟩ : ∃ w1,layP n win0 (ps.take k)=w1:=⟨_,rfl⟩
  have l1:w1.length=2048:=by rw [← hw1,eB,ez]
  rw [hw1] at hnone ⊢
  by_cases hlt:k < ps.length
  ·obtain ⟨⟨t,ys⟩,hxk⟩ : ∃ p,ps[k]?=some p:=⟨_,List.getElem?_eq_getElem hlt⟩
   have hy:ys.length≤100000000:=hb _ (List.mem_of_getElem? hxk)
   obtain ⟨⟨g1,g2⟩,g3⟩:=qF hxk hgk he
   obtain ⟨d,hd⟩ : ∃ d:Nat,(d:Int)=ah t n:=⟨(ah t n).toNat,by omega⟩
   have hs1:=lY (n:=n) hxk win0
   rw [hw1] at hs1
   dsimp only at hs1
   rw [← hd,Int.toNat_natCast] at hs1
   rw [← hd] at g1 g2 g3
   have cd:=ic t n
   rw [gR,if_neg (by omega), ← hd] at cd
   have hrow:(ps.map (prt 2))[(k:Int).toNat]?=some [.val (.int .i64 t),bL 2 ys]:=by simp [hxk]
   have w:=IntWalk.i64_in (k + 1) (by omega)
   have ly:(ys.map bR).length=ys.length:=by simp
   have hlt' : (k:Int) < ps.length:=by omega
   subst hE
   ((conv=>whnf);(repeat' ((first|refine gT ?_|((with_reducible refine ai ?_ ?_);focus (simp [hlen,hlt'];done))|((with_reducible refine aj ?_ ?_);focus (simp [hlen,hlt'];done))|(with_reducible refine ab (fun _=>?_) (fun _=>?_))|(refine ak (idxL rfl rfl rfl rfl rfl rfl (by omega) hrow) ?_)|((with_reducible refine qcp (cd) ?_);refine pT ?_))<;>(conv=>whnf))))
   refine qAW.loopE af (X:=Nat) (fun j=>ap 167 [(1,.val (.int .i64 s)),(2,bL 0 xs),(3,.ptr 3 0 0),(6,.ptr 4 0 0),(7,.val (.slice none 0 0)),(8,.sl 5 0 2049),(9,.sl 6 0 2048),(10,.val (.int .i64 k)),(11,.val (.int .i64 d)),(12,.val (.int .i64 j))])
    (fun j=>[.perm,.perm,.perm,.live ⟨2,46,[[.val (.int .i64 n),.list 1 2 (ps.map (prt 2))]]⟩,.live ⟨2,46,[[.val (.int .i64 0),.val (.slice none 0 0)]]⟩,.live ⟨1,4,hasX (layW w1 d (ys.take j))⟩,.live ⟨1,5,(layW w1 d (ys.take j)).map allR⟩])
    (fun j=>j≤ys.length) (fun j=>ys.length - j) 0 (Nat.zero_le _) ?_ ?_
   ·(refine qcv hB [(3,3),(4,4),(5,5),(6,6)] [(0,0),(1,1),(2,2)] [] ?_;repeat' (with_reducible first|exact trivial|refine And.intro ?_ ?_))
    all_goals first|rfl|(with_reducible exact aE rfl)|(with_reducible exact aD rfl)|(exact ao)|exact aE bM|exact aD bi.symm|exact aM rfl rfl|exact RowsRen.one (.cons (.val _) (.cons (Ren.pll rfl rfl ps) .nil))|(simp [w];done)|skip
   ·intro E2 j hj hE2
    obtain ⟨w2,hw2⟩ : ∃ w2,layW w1 d (ys.take j)=w2:=⟨_,rfl⟩
    have l2:w2.length=2048:=by rw [← hw2,eE,l1]
    try dsimp only
    rw [hw2]
    by_cases hlj:j < ys.length
    ·obtain ⟨x,hxj⟩ : ∃ x,ys[j]?=some x:=⟨_,List.getElem?_eq_getElem hlj⟩
     have hno:at_ w2 (d + j)=none:=by
      rw [← hw2,fQ _ _ _ _ (by omega),hnone (d + j) (by omega) (by omega),if_pos (by omega),List.getElem?_eq_none (by simp;omega)]
      rfl
     have hs2:layW w1 d (ys.take (j + 1))=w2.set (d + j) (some x):=by
      rw [lX hxj,hw2,lay1]
      have:w2[d + j]?=some none:=by
       simp only [at_,List.getD,List.getElem?_eq_getElem (show d + j < w2.length by omega),Option.getD_some] at hno ⊢
       rw [hno]
      rw [this]
     have hrow2:(ys.map bR)[(j:Int).toNat]?=some (bR x):=by simp [hxj]
     have w:=IntWalk.i64_in (j + 1) (by omega)
     have w3:=IntWalk.i64_in (d + j) (by omega)
     have e0:0 + (IntKind.i64.wrap (d + j)).toNat=d + j:=by rw [w3];omega
     have r1:(hasX w2)[0 + (IntKind.i64.wrap (d + j)).toNat]?=some [.val (.bool (isS w2 (d + j)))]:=by rw [e0];exact fT (by omega)
     have r2:(w2.map allR)[0 + (IntKind.i64.wrap (d + j)).toNat]?=some [.val (.int .u8 ((vals w2).getD (d + j) 0))]:=by rw [e0];exact kc (by omega)
     subst hE2
     ((conv=>whnf);(repeat' ((first|refine gT ?_|((with_reducible refine ai ?_ ?_);focus (simp [ly,hlj];done))|((with_reducible refine aj ?_ ?_);focus (simp [ly,hlj];done))|(with_reducible refine ab (fun _=>?_) (fun _=>?_))|(refine ak (idxL rfl rfl rfl rfl rfl rfl (by omega) hrow) ?_)|(refine ak (idxL rfl rfl rfl rfl rfl rfl (by omega) hrow2) ?_)|(refine ak (idxS rfl rfl rfl rfl rfl rfl rfl rfl (by rw [w3];omega)) ?_)|(refine ak (stR rfl rfl rfl rfl r1 rfl rfl (Nat.le_of_ble_eq_true rfl)) ?_)|(refine ak (stR rfl rfl rfl rfl r2 rfl rfl (Nat.le_of_ble_eq_true rfl)) ?_))<;>(conv=>whnf))))
     refine ⟨j + 1,by omega,by omega,?_⟩
     rw [hs2]
     have q1:(hasX w2).set (0 + (IntKind.i64.wrap (d + j)).toNat) [.val (.bool true)]=hasX (w2.set (d + j) (some x)):=by rw [e0];exact m9 (by omega) x
     have q2:(w2.map allR).set (0 + (IntKind.i64.wrap (d + j)).toNat) [.val (.int .u8 x)]=(w2.set (d + j) (some x)).map allR:=by rw [e0];exact ou x
     (refine qcv hB [(3,3),(4,4),(5,5),(6,6)] [(0,0),(1,1),(2,2)] [] ?_;repeat' (with_reducible first|exact trivial|refine And.intro ?_ ?_))
     all_goals first|exact aE q1|exact aD q2|skip
     all_goals first|rfl|(with_reducible exact aE rfl)|(with_reducible exact aD rfl)|(exact ao)|exact aE bM|exact aD bi.symm|exact aM rfl rfl|exact RowsRen.one (.cons (.val _) (.cons (Ren.pll rfl rfl ps) .nil))|(simp [w];done)|skip
    ·subst hE2
     ((conv=>whnf);(repeat' ((first|refine gT ?_|((with_reducible refine ai ?_ ?_);focus (simp [ly,hlj];done))|((with_reducible refine aj ?_ ?_);focus (simp [ly,hlj];done))|(with_reducible refine ab (fun _=>?_) (fun _=>?_))|(refine ak (idxL rfl rfl rfl rfl rfl rfl (by omega) hrow) ?_))<;>(conv=>whnf))))
     have:j=ys.length:=by omega
     subst this
     rw [List.take_length] at hw2
     refine ⟨(k + 1,d + ys.length),⟨⟨by dsimp only;omega,by dsimp only;omega⟩,g3,fun i h1 h2=>?_⟩,by dsimp only;omega,?_⟩
     ·dsimp only at h1 ⊢
      rw [hs1,fQ _ _ _ _ (by omega),hnone i (by omega) h2,if_pos (by omega),List.getElem?_eq_none (by omega)]
      rfl
     ·try dsimp only
      rw [hs1,hw2]
      (refine qcv hB [(3,3),(4,4),(5,5),(6,6)] [(0,0),(1,1),(2,2)] [] ?_;repeat' (with_reducible first|exact trivial|refine And.intro ?_ ?_))
      all_goals first|rfl|(with_reducible exact aE rfl)|(with_reducible exact aD rfl)|(exact ao)|exact aE bM|exact aD bi.symm|exact aM rfl rfl|exact RowsRen.one (.cons (.val _) (.cons (Ren.pll rfl rfl ps) .nil))|(simp [w];done)|skip
  ·have:k=ps.length:=by omega
   subst this
   rw [List.take_length] at hw1
   subst hE
   ((conv=>whnf);(repeat' ((first|refine gT ?_|((with_reducible refine ai ?_ ?_);focus (simp [hlen,hlt];done))|((with_reducible refine aj ?_ ?_);focus (simp [hlen,hlt];done))|(with_reducible refine ab (fun _=>?_) (fun _=>?_))|((with_reducible refine qcp (ic _ _) ?_);refine pT ?_))<;>(conv=>whnf))))
   refine qAW.loopE af (X:=Nat) (fun j=>ap 167 [(2,bL 0 xs),(3,.ptr 3 0 0),(6,.ptr 4 0 0),(7,.val (.slice none 0 0)),(8,.sl 5 0 2049),(9,.sl 6 0 2048),(13,.val (.int .i64 (woff s n))),(14,.val (.int .i64 j))])
    (fun j=>[.perm,.perm,.perm,.live ⟨2,46,[[.val (.int .i64 n),.list 1 2 (ps.map (prt 2))]]⟩,.live ⟨2,46,[[.val (.int .i64 0),.val (.slice none 0 0)]]⟩,.live ⟨1,4,hasX (winS n ps s (xs.take j))⟩,.live ⟨1,5,(winS n ps s (xs.take j)).map allR⟩])
    (fun j=>j≤xs.length) (fun j=>xs.length - j) 0 (Nat.zero_le _) ?_ ?_
   ·rw [List.take_zero,tI,hw1]
    have w:=hn
    (refine qcv hB [(3,3),(4,4),(5,5),(6,6)] [(0,0),(1,1),(2,2)] [] ?_;repeat' (with_reducible first|exact trivial|refine And.intro ?_ ?_))
    all_goals first|rfl|(with_reducible exact aE rfl)|(with_reducible exact aD rfl)|(exact ao)|exact aE bM|exact aD bi.symm|exact aM rfl rfl|exact RowsRen.one (.cons (.val _) (.cons (Ren.pll rfl rfl ps) .nil))|(simp [w];done)|skip
   ·intro E2 j hj hE2
    obtain ⟨w2,hw2⟩ : ∃ w2,winS n ps s (xs.take j)=w2:=⟨_,rfl⟩
    have l2:w2.length=2048:=by rw [← hw2,dk]
    try dsimp only
    rw [hw2]
    by_cases hlj:j < xs.length
    ·obtain ⟨x,hxj⟩ : ∃ x,xs[j]?=some x:=⟨_,List.getElem?_eq_getElem hlj⟩
     have hrow2:(xs.map bR)[(j:Int).toNat]?=some (bR x):=by simp [hxj]
     have w:=IntWalk.i64_in (j + 1) (by omega)
     have ho:=pK s n
     have hod:=gR s n
     have hwd:=bY s n
     have w3:=IntWalk.i64_in (woff s n + j) (by omega)
     subst hE2
     (conv=>whnf)
     repeat ((with_reducible refine lT ?_);(conv=>whnf))
     (with_reducible refine ai ?_ ?_);focus (simp [lx,hlj];done)
     (conv=>whnf)
     generalize hq:(IntKind.i64.wrap (woff s n + j)).tmod 4294967296=q
     have hq2:q=(woff s n + j) % 4294967296:=by rw [← hq,w3];exact Int.tmod_eq_emod_of_nonneg (by omega)
     by_cases hql:q < 2048
     ·obtain ⟨i,rfl⟩ : ∃ i:Nat,q=i:=⟨q.toNat,by omega⟩
      have hi:i < 2048:=by omega
      have hie:(i:Int)=ah s n + j:=xU hq2 (by omega) rfl hi
      obtain ⟨b,hb2⟩ : ∃ b,isS w2 i=b:=⟨_,rfl⟩
      have e0:0 + (i:Int).toNat=i:=by omega
      have r1:(hasX w2)[0 + (i:Int).toNat]?=some [.val (.bool b)]:=by rw [e0, ← hb2];exact fT (by omega)
      have r2:(w2.map allR)[0 + (i:Int).toNat]?=some [.val (.int .u8 ((vals w2).getD i 0))]:=by rw [e0];exact kc (by omega)
      cases b with
      | true =>
        have hs2:=md (n:=n) (s:=s) (ps:=ps) hxj fun i' h1 h2=>by rw [hw2,show i' = i by omega];exact hb2
        rw [hw2] at hs2
        ((conv=>whnf);(repeat' ((first|refine gT ?_|((with_reducible refine ai ?_ ?_);focus (simp [hql,hi];done))|((with_reducible refine aj ?_ ?_);focus (simp [hql,hi];done))|(with_reducible refine ab (fun _=>?_) (fun _=>?_))|(refine ak (idxS rfl rfl rfl rfl rfl rfl rfl rfl (by omega)) ?_)|(refine ak (ldR rfl rfl rfl rfl rfl r1 rfl) ?_))<;>(conv=>whnf))))
        refine ⟨j + 1,by omega,by omega,?_⟩
        rw [hs2]
        (refine qcv hB [(3,3),(4,4),(5,5),(6,6)] [(0,0),(1,1),(2,2)] [] ?_;repeat' (with_reducible first|exact trivial|refine And.intro ?_ ?_))
        all_goals first|rfl|(with_reducible exact aE rfl)|(with_reducible exact aD rfl)|(exact ao)|exact aE bM|exact aD bi.symm|exact aM rfl rfl|exact RowsRen.one (.cons (.val _) (.cons (Ren.pll rfl rfl ps) .nil))|(simp [w];done)|skip
      | false =>
        have hno:at_ w2 i=none:=by rw [ny] at hb2;simpa using hb2
        have hs2:=uW (n:=n) (s:=s) (ps:=ps) hxj hi hie (by rw [hw2];exact hno)
        rw [hw2] at hs2
        have q1:(hasX w2).set (0 + (i:Int).toNat) [.val (.bool true)]=hasX (w2.set i (some x)):=by rw [e0];exact m9 (by omega) x
        have q2:(w2.map allR).set (0 + (i:Int).toNat) [.val (.int .u8 x)]=(w2.set i (some x)).map allR:=by rw [e0];exact ou x
        ((conv=>whnf);(repeat' ((first|refine gT ?_|((with_reducible refine ai ?_ ?_);focus (simp [hql,hi];done))|((with_reducible refine aj ?_ ?_);focus (simp [hql,hi];done))|(with_reducible refine ab (fun _=>?_) (fun _=>?_))|(refine ak (idxL rfl rfl rfl rfl rfl rfl (by omega) hrow2) ?_)|(refine ak (idxS rfl rfl rfl rfl rfl rfl rfl rfl (by omega)) ?_)|(refine ak (ldR rfl rfl rfl rfl rfl r1 rfl) ?_)|(refine ak (stR rfl rfl rfl rfl r1 rfl rfl (Nat.le_of_ble_eq_true rfl)) ?_)|(refine ak (stR rfl rfl rfl rfl r2 rfl rfl (Nat.le_of_ble_eq_true rfl)) ?_))<;>(conv=>whnf))))
        refine ⟨j + 1,by omega,by omega,?_⟩
        rw [hs2]
        (refine qcv hB [(3,3),(4,4),(5,5),(6,6)] [(0,0),(1,1),(2,2)] [] ?_;repeat' (with_reducible first|exact trivial|refine And.intro ?_ ?_))
        all_goals first|exact aE q1|exact aD q2|skip
        all_goals first|rfl|(with_reducible exact aE rfl)|(with_reducible exact aD rfl)|(exact ao)|exact aE bM|exact aD bi.symm|exact aM rfl rfl|exact RowsRen.one (.cons (.val _) (.cons (Ren.pll rfl rfl ps) .nil))|(simp [w];done)|skip
     ·have hs2:=md (n:=n) (s:=s) (ps:=ps) hxj fun i' h1 h2=>(xD hq2 (by omega) hql h1 h2).elim
      rw [hw2] at hs2
      ((conv=>whnf);(repeat' ((first|refine gT ?_|((with_reducible refine ai ?_ ?_);focus (simp [hql];done))|((with_reducible refine aj ?_ ?_);focus (simp [hql];done))|(with_reducible refine ab (fun _=>?_) (fun _=>?_)))<;>(conv=>whnf))))
      clear hq hq2 w3 hod ho hwd hql
      refine ⟨j + 1,by omega,by omega,?_⟩
      as_aux_lemma =>
       rw [hs2]
       (refine qcv hB [(3,3),(4,4),(5,5),(6,6)] [(0,0),(1,1),(2,2)] [] ?_;repeat' (with_reducible first|exact trivial|refine And.intro ?_ ?_))
       all_goals first|rfl|(with_reducible exact aE rfl)|(with_reducible exact aD rfl)|(exact ao)|exact aE bM|exact aD bi.symm|exact aM rfl rfl|exact RowsRen.one (.cons (.val _) (.cons (Ren.pll rfl rfl ps) .nil))|(simp [w];done)|skip
    ·focus
      subst hE2
      ((conv=>whnf);(repeat' ((first|refine gT ?_|((with_reducible refine ai ?_ ?_);focus (simp [lx,hlj];done))|((with_reducible refine aj ?_ ?_);focus (simp [lx,hlj];done))|(with_reducible refine ab (fun _=>?_) (fun _=>?_)))<;>(conv=>whnf))))
      have:j=xs.length:=by omega
      subst this
      rw [List.take_length] at hw2
      rw [hw2] at hr
      refine qAW.loopE af (X:=Nat) (fun t=>ap 167 [(3,.ptr 3 0 0),(6,.ptr 4 0 0),(7,.val (.slice none 0 0)),(8,.sl 5 0 2049),(9,.sl 6 0 2048),(16,.val (.int .i64 t))])
       (fun t=>[.perm,.perm,.perm,.live ⟨2,46,[[.val (.int .i64 n),.list 1 2 (ps.map (prt 2))]]⟩,.live ⟨2,46,[[.val (.int .i64 0),.val (.slice none 0 0)]]⟩,.live ⟨1,4,hasX w2⟩,.live ⟨1,5,w2.map allR⟩])
       (fun t=>t≤2048 ∧ ∀ i,i < t→isS w2 i=true) (fun t=>2048 - t) 0 ⟨Nat.zero_le _,fun i h=>by omega⟩ ?_ ?_
      ·have w:=hn
       (refine qcv hB [(3,3),(4,4),(5,5),(6,6)] [(0,0),(1,1),(2,2)] [] ?_;repeat' (with_reducible first|exact trivial|refine And.intro ?_ ?_))
       all_goals first|rfl|(with_reducible exact aE rfl)|(with_reducible exact aD rfl)|(exact ao)|exact aE bM|exact aD bi.symm|exact aM rfl rfl|exact RowsRen.one (.cons (.val _) (.cons (Ren.pll rfl rfl ps) .nil))|(simp [w];done)|skip
      ·rintro E3 t ⟨ht,hall⟩ hE3
       have e0:0 + (t:Int).toNat=t:=by omega
       obtain ⟨b,hb2⟩ : ∃ b,isS w2 t=b:=⟨_,rfl⟩
       have r1:(hasX w2)[0 + (t:Int).toNat]?=some [.val (.bool b)]:=by rw [e0, ← hb2];exact fT (by omega)
       have w:=IntWalk.i64_in (t + 1) (by omega)
       cases b with
       | true =>
         have:=vt hb2
         subst hE3
         ((conv=>whnf);(repeat' ((first|refine gT ?_|(with_reducible refine ab (fun _=>?_) (fun _=>?_))|(refine ak (idxS rfl rfl rfl rfl rfl rfl rfl rfl (by omega)) ?_)|(refine ak (ldR rfl rfl rfl rfl rfl r1 rfl) ?_))<;>(conv=>whnf))))
         refine ⟨t + 1,⟨by omega,fun i h=>?_⟩,by omega,?_⟩
         ·by_cases e:i=t
          ·rw [e];exact hb2
          ·exact hall i (by omega)
         ·(refine qcv hB [(3,3),(4,4),(5,5),(6,6)] [(0,0),(1,1),(2,2)] [] ?_;repeat' (with_reducible first|exact trivial|refine And.intro ?_ ?_))
          all_goals first|rfl|(with_reducible exact aE rfl)|(with_reducible exact aD rfl)|(exact ao)|exact aE bM|exact aD bi.symm|exact aM rfl rfl|exact RowsRen.one (.cons (.val _) (.cons (Ren.pll rfl rfl ps) .nil))|(simp [w];done)|skip
       | false =>
         have hle:=pM hall hb2
         rw [hle] at hr
         subst hE3
         ((conv=>whnf);(repeat' ((first|refine gT ?_|(with_reducible refine ab (fun _=>?_) (fun _=>?_))|(refine ak (idxS rfl rfl rfl rfl rfl rfl rfl rfl (by omega)) ?_)|(refine ak (ldR rfl rfl rfl rfl rfl r1 rfl) ?_))<;>(conv=>whnf))))
         refine qAW.loopE af (X:=Nat × Option (List Pt × Pt)) (fun x=>ap 167 [(3,.ptr 3 0 0),(6,.ptr 4 0 0),(7,.val (.slice none 0 0)),(8,.sl 5 0 2049),(9,.sl 6 0 2048),(16,.val (.int .i64 t)),(17,mJ x.2),(18,.val (.int .i64 x.1))])
          (fun x=>[.perm,.perm,.perm,.live ⟨2,46,[[.val (.int .i64 n),.list 1 2 (ps.map (prt 2))]]⟩,.live ⟨2,46,[[.val (.int .i64 0),.val (.slice none 0 0)]]⟩,.live ⟨1,4,hasX w2⟩,.live ⟨1,5,w2.map allR⟩,mH x.2,.uniq,.uniq])
          (fun x=>(t≤x.1∧x.1≤2048)∧az n w2 t x.1=vd x.2) (fun x=>2048 - x.1) (t,none) ⟨⟨Nat.le_refl _,ht⟩,cV _ _ _ _ (Nat.le_refl _)⟩ ?_ ?_
         ·have w:=hn
          (refine qcv hB [(3,3),(4,4),(5,5),(6,6)] [(0,0),(1,1),(2,2)] [] ?_;repeat' (with_reducible first|exact trivial|refine And.intro ?_ ?_))
          all_goals first|rfl|(with_reducible exact aE rfl)|(with_reducible exact aD rfl)|(exact ao)|exact aE bM|exact aD bi.symm|exact aM rfl rfl|exact RowsRen.one (.cons (.val _) (.cons (Ren.pll rfl rfl ps) .nil))|(simp [w];done)|skip
         ·rintro E4 ⟨i,p⟩ ⟨⟨h1,h2⟩,hrun⟩ hE4
          dsimp only at h1 h2 hrun
          have w4:=IntWalk.i64_in (i + 1) (by omega)
          have w5:=IntWalk.i64_in (i - 1) (by omega)
          have e1:0 + (i:Int).toNat=i:=by omega
          have hll:=dQ n w2 t i
          by_cases hi:(i:Int) < 2048
          ·obtain ⟨b,hb3⟩ : ∃ b,isS w2 i=b:=⟨_,rfl⟩
           obtain ⟨c,hc⟩ : ∃ c,(vals w2).getD i 0=c:=⟨_,rfl⟩
           have ri:(hasX w2)[i]?=some [.val (.bool b)]:=by rw [← hb3];exact fT (by omega)
           have rb:(w2.map allR)[i]?=some [.val (.int .u8 c)]:=by rw [← hc];exact kc (by omega)
           cases b with
           | false =>
             rcases p with _|⟨l,q⟩<;>dsimp only [mJ,mH]
             ·subst hE4
              ((conv=>whnf);(repeat' ((first|refine gT ?_|((with_reducible refine ai ?_ ?_);focus (simp [hi];done))|((with_reducible refine aj ?_ ?_);focus (simp [hi];done))|(with_reducible refine ab (fun _=>?_) (fun _=>?_))|(refine ak (idxS rfl rfl rfl rfl rfl rfl rfl rfl (by omega)) ?_)|(refine ak (ldR' rfl rfl rfl rfl rfl (by with_reducible exact e1) ri rfl) ?_))<;>(conv=>whnf))))
              refine ⟨(i + 1,none),⟨⟨by dsimp only;omega,by dsimp only;omega⟩,(cp hb3).trans hrun⟩,by dsimp only;omega,?_⟩
              as_aux_lemma =>
               (refine qcv hB [(3,3),(4,4),(5,5),(6,6)] [(0,0),(1,1),(2,2),(8,8),(9,9)] [] ?_;repeat' (with_reducible first|exact trivial|refine And.intro ?_ ?_))
               all_goals first|(simp [w4];done)|skip
               all_goals first|rfl|(with_reducible exact aE rfl)|(with_reducible exact aD rfl)|(exact ao)|exact aE bM|exact aD bi.symm|exact aM rfl rfl|exact RowsRen.one (.cons (.val _) (.cons (Ren.pll rfl rfl ps) .nil))|(simp [w];done)|skip
             ·subst hE4
              ((conv=>whnf);(repeat' ((first|refine gT ?_|((with_reducible refine ai ?_ ?_);focus (simp [hi];done))|((with_reducible refine aj ?_ ?_);focus (simp [hi];done))|(with_reducible refine ab (fun _=>?_) (fun _=>?_))|(refine ak (idxS rfl rfl rfl rfl rfl rfl rfl rfl (by omega)) ?_)|(refine ak (ldR' rfl rfl rfl rfl rfl (by with_reducible exact e1) ri rfl) ?_))<;>(conv=>whnf))))
              refine ⟨(i + 1,some (l,q)),⟨⟨by dsimp only;omega,by dsimp only;omega⟩,(cp hb3).trans hrun⟩,by dsimp only;omega,?_⟩
              as_aux_lemma =>
               (refine qcv hB [(3,3),(4,4),(5,5),(6,6),(7,7)] [(0,0),(1,1),(2,2),(8,8),(9,9)] [] ?_;repeat' (with_reducible first|exact trivial|refine And.intro ?_ ?_))
               all_goals first|(simp [w4];done)|exact (aI rfl l).app (gV rfl q)|skip
               all_goals first|rfl|(with_reducible exact aE rfl)|(with_reducible exact aD rfl)|(exact ao)|exact aE bM|exact aD bi.symm|exact aM rfl rfl|exact RowsRen.one (.cons (.val _) (.cons (Ren.pll rfl rfl ps) .nil))|(simp [w];done)|skip
           | true =>
             have hit:t < i:=by
              rcases Nat.lt_or_ge t i with h|h
              ·exact h
              ·have:i=t:=by omega
               rw [this,hb2] at hb3;cases hb3
             have hi0 : ¬ i=0:=by omega
             obtain ⟨bp,hbp⟩ : ∃ b,isS w2 (i - 1)=b:=⟨_,rfl⟩
             have e2:0 + (IntKind.i64.wrap (i - 1)).toNat=i - 1:=by rw [w5];omega
             have rp:(hasX w2)[i - 1]?=some [.val (.bool bp)]:=by rw [← hbp];exact fT (by omega)
             rcases p with _|⟨l,q⟩<;>dsimp only [mJ,mH] at hrun ⊢
             ·have hbf:bp=false:=by
               cases bp with
               | false=>rfl
               | true=>exact absurd hrun (gj (nx:=n) (Nat.le_pred_of_lt hit) hbp i (Nat.sub_lt (Nat.lt_of_le_of_lt (Nat.zero_le _) hit) Nat.one_pos))
              subst hbf
              have hnx:=dl (nx:=n) (Nat.le_of_lt hit) hb3 (.inr hbp)
              rw [hrun,hc] at hnx
              subst hE4
              ((conv=>whnf);(repeat' ((first|refine gT ?_|((with_reducible refine ai ?_ ?_);focus (simp [hi,hi0];done))|((with_reducible refine aj ?_ ?_);focus (simp [hi,hi0];done))|(with_reducible refine ab (fun _=>?_) (fun _=>?_))|((with_reducible refine qcp (bO _ _) ?_);refine pT ?_)|(refine ak (idxS rfl rfl rfl rfl rfl rfl rfl rfl (by first|omega|(rw [w5];omega))) ?_)|(refine ak (ldR' rfl rfl rfl rfl rfl (by with_reducible exact e1) ri rfl) ?_)|(refine ak (ldR' rfl rfl rfl rfl rfl (by with_reducible exact e2) rp rfl) ?_)|(refine ak (ldR' rfl rfl rfl rfl rfl (by with_reducible exact e1) rb rfl) ?_))<;>(conv=>whnf))))
              refine ⟨(i + 1,some ([],(wadd n i,[c]))),⟨⟨by dsimp only;omega,by dsimp only;omega⟩,hnx⟩,by dsimp only;omega,?_⟩
              as_aux_lemma =>
               (refine qcv hB [(3,3),(4,4),(5,5),(6,6),(11,7)] [(0,0),(1,1),(2,2),(8,8),(9,9)] [(13,9)] ?_;repeat' (with_reducible first|exact trivial|refine And.intro ?_ ?_))
               all_goals first|(simp [w4];done)|exact RowsRen.one (.cons (.val _) (.cons (Ren.fz1 rfl rfl) .nil))|skip
               all_goals first|rfl|(with_reducible exact aE rfl)|(with_reducible exact aD rfl)|(exact ao)|exact aE bM|exact aD bi.symm|exact aM rfl rfl|exact RowsRen.one (.cons (.val _) (.cons (Ren.pll rfl rfl ps) .nil))|(simp [w];done)|skip
             ·have lr:(l.map (prg 8) ++ [prg 9 q]).length=l.length + 1:=by simp
              have hlb:l.length≤2048:=by rw [hrun] at hll;simp at hll;omega
              have w6:=IntWalk.i64_in ((l.length:Int) + 1) (by omega)
              have w7:=IntWalk.i64_in ((l.length:Int) + 1 - 1) (by omega)
              cases bp with
              | true =>
                have hnx:=dG (nx:=n) hit hb3 hbp
                rw [hrun,hc,db] at hnx
                have w7:=IntWalk.i64_in (((l.length + 1:Nat):Int) - 1) (by omega)
                have e3:0 + (IntKind.i64.wrap (((l.length + 1:Nat):Int) - 1)).toNat=l.length:=by rw [w7];omega
                have rq:(l.map (prg 8) ++ [prg 9 q])[l.length]?=some (prg 9 q):=by simp
                have hql:=lf n w2 t i q (by rw [hrun];simp)
                have hqb:(List.map bR q.2).length≤2048:=by simp;omega
                subst hE4
                ((conv=>whnf);(repeat' ((first|refine gT ?_|((with_reducible refine ai ?_ ?_);focus (simp [hi,hi0];done))|((with_reducible refine aj ?_ ?_);focus (simp [hi,hi0];done))|(with_reducible refine ab (fun _=>?_) (fun _=>?_))|((with_reducible refine qcp (bO _ _) ?_);refine pT ?_)|(refine ak (idxS rfl rfl rfl rfl rfl rfl rfl rfl (by first|omega|(rw [w5];omega)|(rw [w7];omega))) ?_)|(refine ak (ldR' rfl rfl rfl rfl rfl (by with_reducible exact e1) ri rfl) ?_)|(refine ak (ldR' rfl rfl rfl rfl rfl (by with_reducible exact e2) rp rfl) ?_)|(refine ak (ldR' rfl rfl rfl rfl rfl (by with_reducible exact e1) rb rfl) ?_)|(refine ak (ldR' rfl rfl rfl rfl rfl (by with_reducible exact e3) rq rfl) ?_)|(refine ak (apG (nb:=1) rfl rfl rfl rfl rfl rfl rfl rfl rfl rfl (by decide) rfl (by simp;omega)) ?_)|(refine ak (stR' rfl rfl rfl rfl (by with_reducible exact e3) rq rfl rfl (Nat.le_of_ble_eq_true rfl)) ?_))<;>(conv=>whnf))))
                refine ⟨(i + 1,some (l,(q.1,q.2 ++ [c]))),⟨⟨by dsimp only;omega,by dsimp only;omega⟩,hnx⟩,by dsimp only;omega,?_⟩
                as_aux_lemma =>
                 have q1:(l.map (prg 8) ++ [prg 9 q]).set l.length [.val (.int .i64 q.1),.glist 11 1 (q.2.map bR ++ [bR c])]=l.map (prg 8) ++ [prg 11 (q.1,q.2 ++ [c])]:=by
                  rw [List.set_append_right _ _ (by simp)];simp
                 (refine qcv hB [(3,3),(4,4),(5,5),(6,6),(7,7)] [(0,0),(1,1),(2,2),(8,8),(11,9)] [] ?_;repeat' (with_reducible first|exact trivial|refine And.intro ?_ ?_))
                 all_goals first|(simp [w4];done)|exact RowsRen.cast q1 ((aI rfl l).app (gV rfl _))|skip
                 all_goals first|rfl|(with_reducible exact aE rfl)|(with_reducible exact aD rfl)|(exact ao)|exact aE bM|exact aD bi.symm|exact aM rfl rfl|exact RowsRen.one (.cons (.val _) (.cons (Ren.pll rfl rfl ps) .nil))|(simp [w];done)|skip
              | false =>
                have hnx:=dl (nx:=n) (Nat.le_of_lt hit) hb3 (.inr hbp)
                rw [hrun,hc] at hnx
                have w7:=IntWalk.i64_in (((l.length + 1 + 1:Nat):Int) - 1) (by omega)
                have e3:0 + (IntKind.i64.wrap (((l.length + 1 + 1:Nat):Int) - 1)).toNat=l.length + 1:=by rw [w7];omega
                have rq:((l.map (prg 8) ++ [prg 9 q]) ++ [[.val (.int .i64 (wadd n i)),.val (.slice none 0 0)]])[l.length + 1]?=some [.val (.int .i64 (wadd n i)),.val (.slice none 0 0)]:=by simp
                have ho1:(l.map (prg 8) ++ [prg 9 q]).all (fun r=>r.all AV.one)=true:=by simp [AV.one,Value.oneCell']
                subst hE4
                ((conv=>whnf);(repeat' ((first|refine gT ?_|((with_reducible refine ai ?_ ?_);focus (simp [hi,hi0];done))|((with_reducible refine aj ?_ ?_);focus (simp [hi,hi0];done))|(with_reducible refine ab (fun _=>?_) (fun _=>?_))|((with_reducible refine qcp (bO _ _) ?_);refine pT ?_)|(refine ak (idxS rfl rfl rfl rfl rfl rfl rfl rfl (by first|omega|(rw [w5];omega)|(rw [w7];omega))) ?_)|(refine ak (ldR' rfl rfl rfl rfl rfl (by with_reducible exact e1) ri rfl) ?_)|(refine ak (ldR' rfl rfl rfl rfl rfl (by with_reducible exact e2) rp rfl) ?_)|(refine ak (ldR' rfl rfl rfl rfl rfl (by with_reducible exact e1) rb rfl) ?_)|(refine ak (ldR' rfl rfl rfl rfl rfl (by with_reducible exact e3) rq rfl) ?_)|(refine ak (apS1 (nb:=32) rfl rfl rfl rfl rfl rfl rfl rfl rfl rfl ⟨Nat.le_of_ble_eq_true rfl,(by decide),rfl⟩ rfl ⟨rfl,rfl,lr.symm⟩ ho1 (by omega)) ?_)|(refine ak (stR' rfl rfl rfl rfl (by with_reducible exact e3) rq rfl rfl (Nat.le_of_ble_eq_true rfl)) ?_))<;>(conv=>whnf))))
                refine ⟨(i + 1,some (l ++ [q],(wadd n i,[c]))),⟨⟨by dsimp only;omega,by dsimp only;omega⟩,hnx⟩,by dsimp only;omega,?_⟩
                as_aux_lemma =>
                 have q1:((l.map (prg 8) ++ [prg 9 q]) ++ [[AV.val (.int .i64 (wadd n i)),AV.val (.slice none 0 0)]]).set (l.length + 1) [AV.val (.int .i64 (wadd n i)),AV.sl 13 0 1]=(l.map (prg 8) ++ [prg 9 q]) ++ [[AV.val (.int .i64 (wadd n i)),AV.sl 13 0 1]]:=by
                  rw [List.set_append_right _ _ (by simp)];simp
                 have q2:(l.map (prg 8) ++ [prg 8 q]) ++ [prg 9 (wadd n i,[c])]=(l ++ [q]).map (prg 8) ++ [prg 9 (wadd n i,[c])]:=by simp
                 (refine qcv hB [(3,3),(4,4),(5,5),(6,6),(11,7)] [(0,0),(1,1),(2,2),(8,8),(9,8)] [(13,9)] ?_;repeat' (with_reducible first|exact trivial|refine And.intro ?_ ?_))
                 all_goals first|(simp [w4];done)|exact RowsRen.cast q1 (RowsRen.castR q2 (((aI rfl l).app (gV rfl q)).app (RowsRen.one (.cons (.val _) (.cons (Ren.fz1 rfl rfl) .nil)))))|(simp;done)|skip
                 all_goals first|rfl|(with_reducible exact aE rfl)|(with_reducible exact aD rfl)|(exact ao)|exact aE bM|exact aD bi.symm|exact aM rfl rfl|exact RowsRen.one (.cons (.val _) (.cons (Ren.pll rfl rfl ps) .nil))|(simp [w];done)|skip
          ·have hi8:i=2048:=by omega
           rw [hi8] at hrun
           rw [hrun] at hr
           have hsl:(seg w2 0 t).length≤100000000:=by rw [jx (by omega)];omega
           have hcp:=bK (seg w2 0 t) hsl
           have hseg:List.take t (List.drop 0 (w2.map allR))=(seg w2 0 t).map bR:=gC (j:=0) (m:=t)
           have hcb:0≤(none:Option Int).getD 0∧(none:Option Int).getD 0≤(some (t:Int)).getD ((2048:Nat):Int)∧(some (t:Int)).getD ((2048:Nat):Int)≤(none:Option Int).getD ((2048:Nat):Int)∧(none:Option Int).getD ((2048:Nat):Int)≤((2048:Nat):Int)∧((none:Option Int)=none∨(some (t:Int))≠none):=by
            simp only [Option.getD_some,Option.getD_none];exact ⟨by omega,by omega,by omega,by omega,.inl trivial⟩
           have hc1:((some (t:Int)).getD ((2048:Nat):Int) - (none:Option Int).getD 0).toNat=t:=by rw [Option.getD_some,Option.getD_none];omega
           rcases p with _|⟨l,q⟩<;>dsimp only [mJ,mH,vd] at hr ⊢
           ·rw [if_neg (by simp)] at hr
            subst hE4
            ((conv=>whnf);(repeat' ((first|refine gT ?_|((with_reducible refine ai ?_ ?_);focus (simp [hi];done))|((with_reducible refine aj ?_ ?_);focus (simp [hi];done))|(with_reducible refine ab (fun _=>?_) (fun _=>?_))|((with_reducible refine qcp (bO _ _) ?_);refine pT ?_)|(refine ak (slS' (i' := 0) (n' := t) rfl rfl rfl rfl rfl rfl rfl rfl rfl rfl hcb rfl hc1) ?_))<;>(conv=>whnf))))
            ((with_reducible refine qcf (fun r=>gL r (seg w2 0 t)) (hcp) [(0,0)] [(0,6)] ?_);refine sT ?_)
            ((conv=>whnf);(repeat' ((first|refine gT ?_|(with_reducible refine ab (fun _=>?_) (fun _=>?_)))<;>(conv=>whnf))))
            subst hr
            (refine qcv hB [] [(0,0),(1,1),(2,2),(8,3),(9,4),(10,5)] [] ?_;repeat' (with_reducible first|exact trivial|refine And.intro ?_ ?_))
            all_goals first|rfl|(with_reducible exact aE rfl)|(with_reducible exact aD rfl)|(exact ao)|exact aE bM|exact aD bi.symm|exact aM rfl rfl|exact RowsRen.one (.cons (.val _) (.cons (Ren.pll rfl rfl ps) .nil))|(simp [w];done)|skip
           ·have lr:(l.map (prg 8) ++ [prg 9 q]).length=l.length + 1:=by simp
            by_cases h8l:(8:Int) < (l.length:Int) + 1
            ·rw [if_pos (by simp;omega)] at hr
             subst hE4
             ((conv=>whnf);(repeat' ((first|refine gT ?_|((with_reducible refine ai ?_ ?_);focus (simp [hi,h8l];done))|((with_reducible refine aj ?_ ?_);focus (simp [hi,h8l];done))|(with_reducible refine ab (fun _=>?_) (fun _=>?_)))<;>(conv=>whnf))))
             subst hr
             (refine qcv hB [] [(0,0),(1,1),(2,2),(8,3),(9,4)] [] ?_;repeat' (with_reducible first|exact trivial|refine And.intro ?_ ?_))
             all_goals first|rfl|(with_reducible exact aE rfl)|(with_reducible exact aD rfl)|(exact ao)|exact aE bM|exact aD bi.symm|exact aM rfl rfl|exact RowsRen.one (.cons (.val _) (.cons (Ren.pll rfl rfl ps) .nil))|(simp [w];done)|skip
            ·rw [if_neg (by simp;omega)] at hr
             subst hE4
             ((conv=>whnf);(repeat' ((first|refine gT ?_|((with_reducible refine ai ?_ ?_);focus (simp [hi,h8l];done))|((with_reducible refine aj ?_ ?_);focus (simp [hi,h8l];done))|(with_reducible refine ab (fun _=>?_) (fun _=>?_))|((with_reducible refine qcp (bO _ _) ?_);refine pT ?_)|(refine ak (slS' (i' := 0) (n' := t) rfl rfl rfl rfl rfl rfl rfl rfl rfl rfl hcb rfl hc1) ?_))<;>(conv=>whnf))))
             ((with_reducible refine qcf (fun r=>gL r (seg w2 0 t)) (hcp) [(0,0)] [(0,6)] ?_);refine sT ?_)
             ((conv=>whnf);(repeat' ((first|refine gT ?_|(with_reducible refine ab (fun _=>?_) (fun _=>?_)))<;>(conv=>whnf))))
             subst hr
             have q1:List.take (l.length + 1) (List.drop 0 (l.map (prg 8) ++ [prg 9 q]))=l.map (prg 8) ++ [prg 9 q]:=by rw [List.drop_zero];exact List.take_of_length_le (by rw [lr];exact Nat.le_refl _)
             have q2:l.map (prg 4) ++ [prg 4 q]=(l ++ [q]).map (prg 4):=by simp
             (refine qcv hB [] [(0,0),(1,1),(2,2),(8,4),(9,4),(10,5)] [(7,3)] ?_;repeat' (with_reducible first|exact trivial|refine And.intro ?_ ?_))
             all_goals first|exact RowsRen.cast q1 (RowsRen.castR q2 ((aI rfl l).app (gV rfl q)))|skip
             all_goals first|rfl|(with_reducible exact aE rfl)|(with_reducible exact aD rfl)|(exact ao)|exact aE bM|exact aD bi.symm|exact aM rfl rfl|exact RowsRen.one (.cons (.val _) (.cons (Ren.pll rfl rfl ps) .nil))|(simp [w];done)|skip
end Go.Proofs.YtceohcbokbalhaaGreat
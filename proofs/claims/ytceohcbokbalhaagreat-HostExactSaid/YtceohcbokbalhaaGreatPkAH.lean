/- Contracts and plain laws, one behind the other: AhTcpZ, Arg16, HostM, HostL, HostL2, HostL3, AhiCut, AhHo, AhTcpR, AhHo2, AhHoD, AhHoO, AhHoS. Conditions are said at each. -/
import Derived.Test.YtceohcbokbalhaaGreatPkAG
import Derived.Test.YtceohcbokbalhaaGreatPkAE
import Derived.Test.YtceohcbokbalhaaGreatPkAF
import Derived.Test.YtceohcbokbalhaaGreatAhRef
import Derived.Lib.SliceRun
import Derived.Deep.RegionLaw
import Derived.Laws.CopyRow
namespace Go.Proofs.YtceohcbokbalhaaGreat
open Go.RowKit
set_option linter.unusedVariables false
set_option linter.unusedSimpArgs false
set_option maxRecDepth 100000
set_option maxHeartbeats 4000000
structure Act where
 dw:Int
 n:Int
 m:Int
 s:Sg
 fit:Bool
 b:List Int
def kD (c:Cn):Prop:=c.out.length≤140737488351232∧xB c.parts
def cwt (c:Cn):Int:=wgo c.out.length c.parts
theorem nP (c:Cn) (hc:kD c):ACallL Tryz.prog 17 [.agg (cnR 0 c)] [.perm] (.val (.int .i64 (cwt c))) [.perm]:=by
 have hlen:(c.parts.map (prt 0)).length=c.parts.length:=by simp
 have px:=al c.out
 have py:=ar c.parts
 obtain ⟨h1,h2,h3⟩:=hc
 have lo:(c.out.map bR).length=c.out.length:=by simp
 obtain ⟨G,hG⟩ : ∃ G,cwt c=G:=⟨_,rfl⟩
 rw [hG]
 unfold cwt at hG
 obtain ⟨ps,hps⟩ : ∃ r,c.parts=r:=⟨_,rfl⟩
 dsimp only [cnR,cnL]
 rw [hps] at hlen py h2 h3 hG ⊢
 refine ACallL.of_ev af Tryz.func17 rfl (fun a w=>Tryz.call17 a w) (congrArg Array.toList Tryz.results17) Tryz.ntmps17 fun B hB=>?_
 ((conv=>whnf);(repeat' ((first|refine gT ?_|(with_reducible refine ab (fun _=>?_) (fun _=>?_)))<;>(conv=>whnf))))
 refine qAW.loop af (X:=Nat × Int) (fun x=>ap 32 [(1,.ptr 1 0 0),(3,.val (.int .i64 x.2)),(4,.val (.int .i64 x.1))]) (fun x=>[.perm,.live ⟨16,50,[cnL (bL 0 c.out) (.list 0 2 (ps.map (prt 0))) c]⟩]) (fun x=>(x.1≤ps.length∧0≤x.2∧x.2≤300000000000000)∧wgo x.2 (ps.drop x.1)=G) (fun x=>ps.length - x.1) (0,(c.out.length:Int)) ⟨⟨Nat.zero_le _,by dsimp only;omega,by dsimp only;omega⟩,hG⟩ ?_ ?_
 ·(refine qcv hB [(1,1)] [(0,0)] [] ?_;repeat' (with_reducible first|exact trivial|refine And.intro ?_ ?_))
  all_goals first|rfl|(rw [lo];done)|(exact ao)|skip
 ·rintro ⟨k,v⟩ ⟨⟨hk,h02,h12⟩,hg2⟩
  dsimp only at hk h02 h12 hg2 ⊢
  have w:=IntWalk.i64_in (k + 1) (by omega)
  by_cases hlt:k < ps.length
  ·obtain ⟨⟨s2,xs2⟩,hxk2⟩ : ∃ p,ps[k]?=some p:=⟨_,List.getElem?_eq_getElem hlt⟩
   have hx2:=h3 _ (List.mem_of_getElem? hxk2)
   dsimp only at hx2
   have hrow2:(ps.map (prt 0))[(k:Int).toNat]?=some [.val (.int .i64 s2),bL 0 xs2]:=by simp [hxk2]
   have lx2:(xs2.map bR).length=xs2.length:=by simp
   by_cases hv2:v < 1048576
   ·have w1:=IntWalk.i64_in (v + 1) (by omega)
    have w2:=IntWalk.i64_in (v + 1 + xs2.length) (by omega)
    have hs2:=ug hxk2 hv2 hg2
    ((conv=>whnf);(repeat' ((first|refine gT ?_|((with_reducible refine ai ?_ ?_);focus (simp [hlt,hv2];done))|((with_reducible refine aj ?_ ?_);focus (simp [hlt,hv2];done))|(with_reducible refine ab (fun _=>?_) (fun _=>?_))|(refine ak (idxL rfl rfl rfl rfl rfl rfl (by omega) hrow2) ?_))<;>(conv=>whnf))))
    refine ⟨(k + 1,v + 1 + xs2.length),⟨⟨by dsimp only;omega,by dsimp only;omega,by dsimp only;omega⟩,hs2⟩,by dsimp only;omega,?_⟩
    (refine qcv hB [(1,1)] [(0,0)] [] ?_;repeat' (with_reducible first|exact trivial|refine And.intro ?_ ?_))
    all_goals first|rfl|(exact ao)|(simp [w];done)|(rw [lx2,w1,w2];done)|skip
   ·have e:=uw hlt hv2 hg2
    ((conv=>whnf);(repeat' ((first|refine gT ?_|((with_reducible refine ai ?_ ?_);focus (simp [hlt,hv2];done))|((with_reducible refine aj ?_ ?_);focus (simp [hlt,hv2];done))|(with_reducible refine ab (fun _=>?_) (fun _=>?_)))<;>(conv=>whnf))))
    all_goals (refine qcv hB [] [(0,0)] [] ?_;repeat' (with_reducible first|exact trivial|refine And.intro ?_ ?_))
    all_goals (rw [e])
  ·have e2:k=ps.length:=by omega
   have e:v=G:=by rw [e2,List.drop_length] at hg2;exact hg2
   ((conv=>whnf);(repeat' ((first|refine gT ?_|((with_reducible refine ai ?_ ?_);focus (simp [hlt];done))|((with_reducible refine aj ?_ ?_);focus (simp [hlt];done))|(with_reducible refine ab (fun _=>?_) (fun _=>?_)))<;>(conv=>whnf))))
   all_goals (refine qcv hB [] [(0,0)] [] ?_;repeat' (with_reducible first|exact trivial|refine And.intro ?_ ?_))
   all_goals (rw [e])
theorem iu:Tryz.prog.cellsOf 4=1:=by kernel_rfl
theorem jN:Tryz.prog.cellsOf 48=4:=by kernel_rfl
theorem kY:Tryz.prog.cellsOf 50=16:=by kernel_rfl
theorem me:Tryz.prog.cellsOf 39=7:=by kernel_rfl
theorem lN {q:Nat} {avs:List AV} (h:TyZV Tryz.prog (q + 1) 4 avs) : ∃ b,avs=[.val (.bool b)]:=by
 simp only [TyZV,Tryz.underlying4] at h;exact h
theorem tx {q:Nat} {avs:List AV} (h:TyZV Tryz.prog (q + 2) 48 avs) : ∃ t:Tm,avs=[.val (.bool t.on),.val (.int .i64 t.left),.val (.int .i64 t.wait),.val (.int .i64 t.tries)]:=by
 unfold TyZV at h
 rw [Tryz.underlying48] at h
 obtain ⟨hl,hx⟩:=h
 rw [jN] at hl
 match avs,hl with
 | [c0,c1,c2,c3],_ =>
   simp only [List.forall_mem_cons,iu,dO,List.drop,List.take] at hx
   obtain ⟨h0,h1,h2,h3, -⟩:=hx
   obtain ⟨b,e0⟩:=lN h0
   obtain ⟨i1,e1, -⟩:=bu h1
   obtain ⟨i2,e2, -⟩:=bu h2
   obtain ⟨i3,e3, -⟩:=bu h3
   simp only [List.cons.injEq,and_true] at e0 e1 e2 e3
   subst e0 e1 e2 e3
   exact ⟨⟨b,i1,i2,i3⟩,rfl⟩
theorem vW {q:Nat} {avs:List AV} (h:TyZV Tryz.prog (q + 6) 50 avs) : ∃ c:Cn,avs=cnR 0 c∧kD c:=by
 unfold TyZV at h
 rw [Tryz.underlying50] at h
 obtain ⟨hl,hx⟩:=h
 rw [kY] at hl
 match avs,hl with
 | [c0,c1,c2,c3,c4,c5,c6,c7,c8,c9,c10,c11,c12,c13,c14,c15],_ =>
   simp only [List.forall_mem_cons,iu,dO,fh,iQ,jN,List.drop,List.take] at hx
   obtain ⟨h0,h1,h2,h3,h4,h5,h6,h7,h8,h9,h10,h11, -⟩:=hx
   obtain ⟨i0,e0, -⟩:=bu h0
   obtain ⟨i1,e1, -⟩:=bu h1
   obtain ⟨i2,e2, -⟩:=bu h2
   obtain ⟨i3,e3, -⟩:=bu h3
   obtain ⟨i4,e4, -⟩:=bu h4
   obtain ⟨i5,e5, -⟩:=bu h5
   obtain ⟨i6,e6, -⟩:=bu h6
   obtain ⟨i7,e7, -⟩:=bu h7
   obtain ⟨o,e8,b8⟩:=iC h8
   obtain ⟨n,ps,e9,b9,b9'⟩:=ta h9
   obtain ⟨cl,e10⟩:=lN h10
   obtain ⟨t,e11⟩:=tx h11
   simp only [List.cons.injEq,and_true] at e0 e1 e2 e3 e4 e5 e6 e7 e8 e9 e10 e11
   obtain ⟨e9,f9⟩:=e9
   obtain ⟨e11,f11,g11,k11⟩:=e11
   subst e0 e1 e2 e3 e4 e5 e6 e7 e8 e9 f9 e10 e11 f11 g11 k11
   exact ⟨⟨i0,i1,i2,i3,i4,i5,i6,i7,o,n,ps,cl,t⟩,rfl,b8.1,b9,fun p hp=>(b9' p hp).1⟩
theorem xv {q:Nat} {avs:List AV} (h:TyZV Tryz.prog (q + 3) 39 avs) : ∃ m:Sg,avs=sgR 0 m∧m.data.length≤140737488351232:=by
 unfold TyZV at h
 rw [Tryz.underlying39] at h
 obtain ⟨hl,hx⟩:=h
 rw [me] at hl
 match avs,hl with
 | [c0,c1,c2,c3,c4,c5,c6],_ =>
   simp only [List.forall_mem_cons,dO,fh,List.drop,List.take] at hx
   obtain ⟨h0,h1,h2,h3,h4,h5,h6, -⟩:=hx
   obtain ⟨i0,e0, -⟩:=bu h0
   obtain ⟨i1,e1, -⟩:=bu h1
   obtain ⟨i2,e2, -⟩:=bu h2
   obtain ⟨i3,e3, -⟩:=bu h3
   obtain ⟨i4,e4, -⟩:=bu h4
   obtain ⟨i5,e5, -⟩:=bu h5
   obtain ⟨o,e6,b6⟩:=iC h6
   simp only [List.cons.injEq,and_true] at e0 e1 e2 e3 e4 e5 e6
   subst e0 e1 e2 e3 e4 e5 e6
   exact ⟨⟨i0,i1,i2,i3,i4,i5,o⟩,rfl,b6.1⟩
structure Ho where
 conns:List Cn
 count:Int
structure Hd where
 link:Int
 data:List Int
 fin:Bool
 deriving DecidableEq
structure Hs where
 h:Ho
 out:List (Int × Sg)
 heard:List Hd
def ck (c:Cn) (l:List Cn):Bool:=l.any fun d=>d.ip == c.ip && d.pp == c.pp
def bN (count:Int):Int→List Cn→List Cn→Bool
 | _,_,[]=>true
 | last,done,c::l=>(cnB c && (!(c.st == 0) && (decide (last < c.link) && (decide (c.link≤count) && (c.port == 1883 && !ck c done))))) && bN count c.link (done ++ [c]) l
def aR (h:Ho):Bool:=am h.count 1099511627776 && (decide (h.conns.length≤8) && bN h.count 0 [] h.conns)
def Ho.put (h:Ho) (i:Nat) (c:Cn):Ho := { h with conns:=bif c.st == 0 then h.conns.eraseIdx i else h.conns.set i c }
def hisB (ip:Int) (s:Sg) (c:Cn):Bool:=s.dp == 1883 && (c.ip == ip && c.pp == s.sp)
def synN (l:List Cn):Nat:=(l.filter fun c=>c.st == 1).length
def bm (s:Sg):Sg:=bif flN s.fl 16 then ⟨s.dp,s.sp,0,wadd s.seq s.len,20,0,[]⟩ else ⟨s.dp,s.sp,s.ack,0,4,0,[]⟩
def toS (ip:Int) (l:List Sg):List (Int × Sg):=l.map fun s=>(ip,s)
def Ho.more (h:Ho) (ip:Int) (s:Sg):Hs :=
 ⟨⟨h.conns ++ [(ce (h.count + 1) ip (wadd 0 (64000 * (h.count + 1))) s).c],h.count + 1⟩,toS ip (ce (h.count + 1) ip (wadd 0 (64000 * (h.count + 1))) s).out,[]⟩
def Ho.fresh (h:Ho) (ip:Int) (s:Sg):Hs :=
 bif flN s.fl 4 then
  bif !(s.dp == 1883) || (flN s.fl 2 || (!flN s.fl 16 || (decide (8≤h.conns.length) || (decide (4≤synN h.conns) || h.count == 1099511627776)))) then ⟨h,[(ip,bm s)],[]⟩
  else h.more ip s
 else ⟨h,[],[]⟩
def endB (was now:Int):Bool:=now == 0 || ((now == 5 || (now == 6 || now == 8)) && (was == 1 || (was == 2 || (was == 3 || was == 4))))
def dR (link:Int) (told:List Int) (fin:Bool):List Hd:=bif fin || !told.isEmpty then [⟨link,told,fin⟩] else []
def Ho.take (h:Ho) (ip:Int) (s:Sg):Hs :=
 match h.conns.findIdx? (hisB ip s) with
 | some i=>let c:=h.conns.getD i ⟨0,0,0,0,0,0,0,0,[],0,[],false,tm0⟩;let y:=c.takes s
   ⟨h.put i y.c,toS ip y.out,dR c.link y.told (endB c.st y.c.st)⟩
 | none=>h.fresh ip s
def Ho.at_ (h:Ho) (link:Int):Option Nat:=h.conns.findIdx? fun c=>c.link == link
def Ho.withE (h:Ho) (link:Int) (e:Cn→Int):Int :=
 match h.at_ link with
 | some i=>e (h.conns.getD i ⟨0,0,0,0,0,0,0,0,[],0,[],false,tm0⟩)
 | none=>3
def Ho.withS (h:Ho) (link:Int) (f:Cn→Stp):Hs :=
 match h.at_ link with
 | some i=>let c:=h.conns.getD i ⟨0,0,0,0,0,0,0,0,[],0,[],false,tm0⟩;⟨h.put i (f c).c,toS c.ip (f c).out,[]⟩
 | none=>⟨h,[],[]⟩
def aq:List Cn→List Cn × List (Int × Sg) × List Hd
 | []=>([],[],[])
 | c::l=>let y:=c.ticks;let r:=aq l
   (bif y.c.st == 0 then r.1 else y.c::r.1,toS c.ip y.out ++ r.2.1,bif y.c.st == 0 then ⟨c.link,[],true⟩::r.2.2 else r.2.2)
def Ho.tick (h:Ho):Hs:=⟨⟨(aq h.conns).1,h.count⟩,(aq h.conns).2.1,(aq h.conns).2.2⟩
theorem xG (x:Stp) (m:Sg):(x.ack m).1.c.st=x.c.st∨(x.c.st=1∧(x.ack m).1.c.st=2)∨(x.c.st=3∧(x.ack m).1.c.st=4)∨(x.c.st=6∧(x.ack m).1.c.st=8)∨(x.c.st=7∧(x.ack m).1.c.st=0):=by
 unfold Stp.ack
 have P:Stp × Bool→Prop:=fun _=>True
 refine aB (p:=fun r:Stp × Bool=>r.1.c.st=x.c.st∨(x.c.st=1∧r.1.c.st=2)∨(x.c.st=3∧r.1.c.st=4)∨(x.c.st=6∧r.1.c.st=8)∨(x.c.st=7∧r.1.c.st=0)) (fun h1=>?_) (fun _=>?_)
 ·have h1:x.c.st=1:=by simpa using h1
  exact aB (p:=fun r:Stp × Bool=>r.1.c.st=x.c.st∨(x.c.st=1∧r.1.c.st=2)∨(x.c.st=3∧r.1.c.st=4)∨(x.c.st=6∧r.1.c.st=8)∨(x.c.st=7∧r.1.c.st=0)) (fun _ => .inr (.inl ⟨h1,rfl⟩)) (fun _ => .inl rfl)
 ·refine aB (p:=fun r:Stp × Bool=>r.1.c.st=x.c.st∨(x.c.st=1∧r.1.c.st=2)∨(x.c.st=3∧r.1.c.st=4)∨(x.c.st=6∧r.1.c.st=8)∨(x.c.st=7∧r.1.c.st=0)) (fun _ => .inl rfl) (fun _=>?_)
  refine aB (p:=fun r:Stp × Bool=>r.1.c.st=x.c.st∨(x.c.st=1∧r.1.c.st=2)∨(x.c.st=3∧r.1.c.st=4)∨(x.c.st=6∧r.1.c.st=8)∨(x.c.st=7∧r.1.c.st=0)) (fun _ => .inl rfl) (fun _=>?_)
  refine aB (p:=fun r:Stp × Bool=>r.1.c.st=x.c.st∨(x.c.st=1∧r.1.c.st=2)∨(x.c.st=3∧r.1.c.st=4)∨(x.c.st=6∧r.1.c.st=8)∨(x.c.st=7∧r.1.c.st=0)) (fun _=>?_) (fun _ => .inl rfl)
  refine aB (p:=fun r:Stp × Bool=>r.1.c.st=x.c.st∨(x.c.st=1∧r.1.c.st=2)∨(x.c.st=3∧r.1.c.st=4)∨(x.c.st=6∧r.1.c.st=8)∨(x.c.st=7∧r.1.c.st=0)) (fun h => .inr (.inr (.inl ⟨by simpa using h,rfl⟩))) (fun _=>?_)
  refine aB (p:=fun r:Stp × Bool=>r.1.c.st=x.c.st∨(x.c.st=1∧r.1.c.st=2)∨(x.c.st=3∧r.1.c.st=4)∨(x.c.st=6∧r.1.c.st=8)∨(x.c.st=7∧r.1.c.st=0)) (fun h => .inr (.inr (.inr (.inl ⟨by simpa using h,rfl⟩)))) (fun _=>?_)
  exact aB (p:=fun r:Stp × Bool=>r.1.c.st=x.c.st∨(x.c.st=1∧r.1.c.st=2)∨(x.c.st=3∧r.1.c.st=4)∨(x.c.st=6∧r.1.c.st=8)∨(x.c.st=7∧r.1.c.st=0)) (fun h => .inr (.inr (.inr (.inr ⟨by simpa using h,rfl⟩)))) (fun _ => .inl rfl)
theorem wL (x:Stp) (m:Sg):(x.data m).c.st=x.c.st∨(x.c.st=2∧(x.data m).c.st=5)∨(x.c.st=3∧(x.data m).c.st=6)∨(x.c.st=4∧(x.data m).c.st=8):=by
 unfold Stp.data
 cases hh:x.c.hears with
 | false=>exact .inl rfl
 | true =>
   rw [cond_true]
   have hs:x.c.st=2∨x.c.st=3∨x.c.st=4:=by simpa [Cn.hears] using hh
   have e:(x.dataIn m).c.st=x.c.st:=rfl
   unfold Stp.dataFin
   refine aB (p:=fun r:Stp=>r.c.st=x.c.st∨(x.c.st=2∧r.c.st=5)∨(x.c.st=3∧r.c.st=6)∨(x.c.st=4∧r.c.st=8)) (fun _ => .inl rfl) (fun _=>?_)
   refine aB (p:=fun r:Stp=>r.c.st=x.c.st∨(x.c.st=2∧r.c.st=5)∨(x.c.st=3∧r.c.st=6)∨(x.c.st=4∧r.c.st=8)) (fun _=>?_) (fun _ => .inl rfl)
   refine aB (p:=fun r:Stp=>r.c.st=x.c.st∨(x.c.st=2∧r.c.st=5)∨(x.c.st=3∧r.c.st=6)∨(x.c.st=4∧r.c.st=8)) (fun _ => .inl rfl) (fun _=>?_)
   refine aB (p:=fun r:Stp=>r.c.st=x.c.st∨(x.c.st=2∧r.c.st=5)∨(x.c.st=3∧r.c.st=6)∨(x.c.st=4∧r.c.st=8)) (fun h => .inr (.inl ⟨by simpa [e] using h,rfl⟩)) (fun h2=>?_)
   refine aB (p:=fun r:Stp=>r.c.st=x.c.st∨(x.c.st=2∧r.c.st=5)∨(x.c.st=3∧r.c.st=6)∨(x.c.st=4∧r.c.st=8)) (fun h => .inr (.inr (.inl ⟨by simpa [e] using h,rfl⟩))) (fun h3=>?_)
   have h2' : x.c.st≠2:=by simpa [e] using h2
   have h3' : x.c.st≠3:=by simpa [e] using h3
   exact .inr (.inr (.inr ⟨by omega,rfl⟩))
theorem mi : ∀ (k:Nat) (y:Stp),(pumpGo k y).c.st=y.c.st
 | 0,y=>rfl
 | k + 1,y=>by
   rw [pumpGo]
   split
   ·rfl
   ·rw [mi k];rfl
theorem wz (x:Stp) (h:x.c.st=2∨x.c.st=5):x.pump.c.st=x.c.st∨(x.c.st=2∧x.pump.c.st=3)∨(x.c.st=5∧x.pump.c.st=7):=by
 have p3 : ∀ z:Stp,z.pump3.c.st=z.c.st:=fun z=>by unfold Stp.pump3;split<;>rfl
 unfold Stp.pump
 rw [p3]
 have e:=mi x.c.out.length x
 obtain ⟨z,hz⟩ : ∃ z,pumpGo x.c.out.length x=z:=⟨_,rfl⟩
 rw [hz] at e ⊢
 unfold Stp.pump2
 split
 ·show (if z.c.st=2 then (3:Int) else 7)=_∨_∧(if z.c.st=2 then (3:Int) else 7)=3∨_∧(if z.c.st=2 then (3:Int) else 7)=7
  rw [e]
  rcases h with h|h<;>rw [h]<;>simp
 ·exact .inl e
theorem tS (x:Stp):x.pumpT.c.st=x.c.st∨(x.c.st=2∧x.pumpT.c.st=3)∨(x.c.st=5∧x.pumpT.c.st=7):=by
 unfold Stp.pumpT
 cases ht:x.c.talks with
 | false=>exact .inl rfl
 | true=>exact wz x (by simpa [Cn.talks] using ht)
theorem vY (x:Stp):x.late.c.st=x.c.st:=by
 unfold Stp.late
 cases x.c.lateB<;>rfl
theorem uM (c:Cn) (m:Sg):((c.takes m).c.st=5→c.st=1∨c.st=2∨c.st=5)∧((c.takes m).c.st=6→c.st=3∨c.st=6)∧((c.takes m).c.st=8→c.st=3∨c.st=4∨c.st=6∨c.st=8):=by
 have same : ∀ r:Stp,r.c.st=c.st→(r.c.st=5→c.st=1∨c.st=2∨c.st=5)∧(r.c.st=6→c.st=3∨c.st=6)∧(r.c.st=8→c.st=3∨c.st=4∨c.st=6∨c.st=8):=fun r e=>by omega
 have hk:=xG c.start m
 have e0:c.start.c.st=c.st:=rfl
 rw [e0] at hk
 unfold Cn.takes Stp.take
 refine aB (p:=fun r:Stp=>(r.c.st=5→c.st=1∨c.st=2∨c.st=5)∧(r.c.st=6→c.st=3∨c.st=6)∧(r.c.st=8→c.st=3∨c.st=4∨c.st=6∨c.st=8)) (fun _=>same _ rfl) (fun _=>?_)
 refine aB (p:=fun r:Stp=>(r.c.st=5→c.st=1∨c.st=2∨c.st=5)∧(r.c.st=6→c.st=3∨c.st=6)∧(r.c.st=8→c.st=3∨c.st=4∨c.st=6∨c.st=8)) (fun _=>?_) (fun _=>?_)
 ·refine aB (p:=fun r:Stp=>(r.c.st=5→c.st=1∨c.st=2∨c.st=5)∧(r.c.st=6→c.st=3∨c.st=6)∧(r.c.st=8→c.st=3∨c.st=4∨c.st=6∨c.st=8)) (fun _=>?_) (fun _=>?_)
  ·refine aB (p:=fun r:Stp=>(r.c.st=5→c.st=1∨c.st=2∨c.st=5)∧(r.c.st=6→c.st=3∨c.st=6)∧(r.c.st=8→c.st=3∨c.st=4∨c.st=6∨c.st=8)) (fun _=>?_) (fun _=>same _ rfl)
   refine aB (p:=fun r:Stp=>(r.c.st=5→c.st=1∨c.st=2∨c.st=5)∧(r.c.st=6→c.st=3∨c.st=6)∧(r.c.st=8→c.st=3∨c.st=4∨c.st=6∨c.st=8)) (fun _=>same _ rfl) (fun _=>?_)
   refine aB (p:=fun r:Stp=>(r.c.st=5→c.st=1∨c.st=2∨c.st=5)∧(r.c.st=6→c.st=3∨c.st=6)∧(r.c.st=8→c.st=3∨c.st=4∨c.st=6∨c.st=8)) (fun _=>?_) (fun _=>?_)
   ·show ((((c.start.ack m).1.more m)).c.st=5→_)∧_
    have h1:=wL (c.start.ack m).1 m
    have h2:=tS (((c.start.ack m).1.data m).ackLen m)
    rw [ra] at h2
    have h3:((c.start.ack m).1.more m).c.st=(((c.start.ack m).1.data m).ackLen m).pumpT.c.st:=vY _
    rw [h3]
    omega
   ·show ((c.start.ack m).1.c.st=5→_)∧_
    omega
  ·show ((0:Int)=5→_)∧((0:Int)=6→_)∧((0:Int)=8→_)
   omega
 ·refine aB (p:=fun r:Stp=>(r.c.st=5→c.st=1∨c.st=2∨c.st=5)∧(r.c.st=6→c.st=3∨c.st=6)∧(r.c.st=8→c.st=3∨c.st=4∨c.st=6∨c.st=8)) (fun _=>?_) (fun _=>same _ rfl)
  refine aB (p:=fun r:Stp=>(r.c.st=5→c.st=1∨c.st=2∨c.st=5)∧(r.c.st=6→c.st=3∨c.st=6)∧(r.c.st=8→c.st=3∨c.st=4∨c.st=6∨c.st=8)) (fun _=>same _ rfl) (fun _=>same _ rfl)
def endP (was now:Int):Bool:=bif now == 0 then !(was == 0) else !(now == was) && (now == 5 || (now == 6 || (now == 8 && !(was == 6))))
theorem wu (c:Cn) (m:Sg) (h0:c.st≠0) (hs:0≤c.st∧c.st≤8):endP c.st (c.takes m).c.st=endB c.st (c.takes m).c.st:=by
 obtain ⟨h5,h6,h8⟩:=uM c m
 generalize (c.takes m).c.st=now at *
 generalize c.st=was at *
 unfold endP endB
 rw [Bool.eq_iff_iff]
 by_cases n0:now=0
 ·subst n0
  simp [h0]
 ·have e0:(now == 0)=false:=by simpa using n0
  rw [e0,cond_false,Bool.false_or]
  simp only [Bool.and_eq_true,Bool.or_eq_true,Bool.not_eq_true', beq_iff_eq,beq_eq_false_iff_ne]
  omega
structure CnOk (count:Int) (c:Cn):Prop where
 I:CnI c
 st:c.st≠0
 le:c.link≤count
 port:c.port=1883
theorem uF (c:Cn) (l:List Cn):ck c l=false ↔ ∀ d∈l, ¬ (d.ip=c.ip∧d.pp=c.pp):=by
 unfold ck
 rw [List.any_eq_false]
 simp only [Bool.and_eq_true,beq_iff_eq]
theorem kO {count:Int} : ∀ (l:List Cn) (last:Int) (done:List Cn),bN count last done l=true ↔
 (∀ c∈l,CnOk count c∧last < c.link ∧ ∀ d∈done, ¬ (d.ip=c.ip∧d.pp=c.pp))∧l.Pairwise (fun a b=>a.link < b.link)∧l.Pairwise (fun a b => ¬ (a.ip=b.ip∧a.pp=b.pp))
 | [],last,done=>by simp [bN]
 | c::l,last,done=>by
   rw [bN,Bool.and_eq_true,kO l c.link (done ++ [c])]
   simp only [Bool.and_eq_true,Bool.not_eq_true', beq_iff_eq,beq_eq_false_iff_ne,decide_eq_true_eq,uF,bh,List.pairwise_cons,List.forall_mem_cons]
   constructor
   ·rintro ⟨⟨h1,h2,h3,h4,h5,h6⟩,h7,h8,h9⟩
    refine ⟨⟨⟨⟨h1,h2,h4,h5⟩,h3,h6⟩,fun d hd=>?_⟩,⟨fun d hd=>(h7 d hd).2.1,h8⟩,⟨fun d hd=>(h7 d hd).2.2 c (by simp),h9⟩⟩
    obtain ⟨a,b,e⟩:=h7 d hd
    exact ⟨a,by omega,fun x hx=>e x (by simp [hx])⟩
   ·rintro ⟨⟨⟨⟨h1,h2,h4,h5⟩,h3,h6⟩,h7⟩,⟨h8,h9⟩,⟨h10,h11⟩⟩
    refine ⟨⟨h1,h2,h3,h4,h5,h6⟩,fun d hd=>?_,h9,h11⟩
    obtain ⟨a,b,e⟩:=h7 d hd
    refine ⟨a,h8 d hd,fun x hx=>?_⟩
    rcases List.mem_append.1 hx with hx|hx
    ·exact e x hx
    ·rw [List.mem_singleton.1 hx];exact h10 d hd
structure HoI (h:Ho):Prop where
 count:0≤h.count∧h.count≤1099511627776
 len:h.conns.length≤8
 ok : ∀ c∈h.conns,CnOk h.count c∧0 < c.link
 up:h.conns.Pairwise (fun a b=>a.link < b.link)
 one:h.conns.Pairwise (fun a b => ¬ (a.ip=b.ip∧a.pp=b.pp))
theorem aU (h:Ho):aR h=true ↔ HoI h:=by
 unfold aR am
 rw [Bool.and_eq_true,Bool.and_eq_true,decide_eq_true_eq,decide_eq_true_eq,kO]
 constructor
 ·rintro ⟨h1,h2,h3,h4,h5⟩
  exact ⟨h1,h2,fun c hc=>⟨(h3 c hc).1,(h3 c hc).2.1⟩,h4,h5⟩
 ·rintro ⟨h1,h2,h3,h4,h5⟩
  exact ⟨h1,h2,fun c hc=>⟨(h3 c hc).1,(h3 c hc).2,by simp⟩,h4,h5⟩
theorem iX {α:Type} {R:α→α→Prop} {l:List α} (h:l.Pairwise R) {i:Nat} {c d:α} (hi:l[i]?=some c) (h1 : ∀ x,R x c→R x d) (h2 : ∀ x,R c x→R d x):(l.set i d).Pairwise R:=by
 rw [List.pairwise_iff_getElem] at h ⊢
 intro a b ha hb hab
 simp only [List.length_set] at ha hb
 have hil:=(List.getElem?_eq_some_iff.1 hi).1
 have hie:=(List.getElem?_eq_some_iff.1 hi).2
 simp only [List.getElem_set]
 have hr:=h a b ha hb hab
 by_cases e1:i=a
 ·subst e1
  rw [if_pos rfl,if_neg (by omega)]
  exact h2 _ (hie ▸ hr)
 ·rw [if_neg e1]
  by_cases e2:i=b
  ·subst e2
   rw [if_pos rfl]
   exact h1 _ (hie ▸ hr)
  ·rw [if_neg e2];exact hr
theorem HoI.put {h:Ho} (H:HoI h) {i:Nat} {c d:Cn} (hi:h.conns[i]?=some c) (hd:CnI d) (e1:d.link=c.link) (e2:d.ip=c.ip) (e3:d.pp=c.pp) (e4:d.port=c.port):HoI (h.put i d):=by
 unfold Ho.put
 cases hs:(d.st == 0) with
 | true =>
   rw [cond_true]
   exact ⟨H.count,by have:=H.len;rw [List.length_eraseIdx];split<;>omega,fun x hx=>H.ok x (List.mem_of_mem_eraseIdx hx),H.up.sublist (List.eraseIdx_sublist ..),H.one.sublist (List.eraseIdx_sublist ..)⟩
 | false =>
   rw [cond_false]
   have hst:d.st≠0:=by simpa using hs
   obtain ⟨k1,k2⟩:=H.ok c (List.mem_of_getElem? hi)
   refine ⟨H.count,by simpa using H.len,fun x hx=>?_,iX H.up hi (fun x hx=>by rw [e1];exact hx) (fun x hx=>by rw [e1];exact hx),iX H.one hi (fun x hx=>by rw [e2,e3];exact hx) (fun x hx=>by rw [e2,e3];exact hx)⟩
   rcases List.mem_or_eq_of_mem_set hx with hx|rfl
   ·exact H.ok x hx
   ·exact ⟨⟨hd,hst,by rw [e1];exact k1.le,by rw [e4];exact k1.port⟩,by rw [e1];exact k2⟩
theorem HoI.more {h:Ho} (H:HoI h) {d:Cn} (hd:CnI d) (hst:d.st≠0) (hl:d.link=h.count + 1) (hp:d.port=1883) (h8:h.conns.length < 8) (hc:h.count < 1099511627776) (hno : ∀ c∈h.conns, ¬ (c.ip=d.ip∧c.pp=d.pp)):HoI ⟨h.conns ++ [d],h.count + 1⟩:=by
 have h0:=H.count
 refine ⟨by dsimp only;omega,by simp;omega,fun x hx=>?_,?_,?_⟩
 ·rcases List.mem_append.1 hx with hx|hx
  ·obtain ⟨a,b⟩:=H.ok x hx
   exact ⟨⟨a.I,a.st,by have:=a.le;dsimp only;omega,a.port⟩,b⟩
  ·rw [List.mem_singleton.1 hx]
   exact ⟨⟨hd,hst,by dsimp only;omega,hp⟩,by omega⟩
 ·rw [List.pairwise_append]
  exact ⟨H.up,by simp,fun a ha b hb=>by rw [List.mem_singleton.1 hb];have:=(H.ok a ha).1.le;omega⟩
 ·rw [List.pairwise_append]
  exact ⟨H.one,by simp,fun a ha b hb=>by rw [List.mem_singleton.1 hb];exact hno a ha⟩
theorem fl20 : ∀ n:Fin 64,flN ((n.val:Nat):Int) 20=(flN ((n.val:Nat):Int) 16 && flN ((n.val:Nat):Int) 4):=by decide +kernel
theorem rX {fl:Int} (h:0≤fl∧fl≤63):flN fl 20=(flN fl 16 && flN fl 4):=by
 have:=fl20 ⟨fl.toNat,by omega⟩
 simpa [Int.toNat_of_nonneg h.1] using this
abbrev cnZ:Cn:=⟨0,0,0,0,0,0,0,0,[],0,[],false,tm0⟩
theorem bV {p:Cn→Bool} {l:List Cn} {i:Nat} (h:l.findIdx? p=some i) : ∃ c,l[i]?=some c∧p c=true∧l.getD i cnZ=c:=by
 obtain ⟨hi,hp, -⟩:=List.findIdx?_eq_some_iff_getElem.1 h
 exact ⟨l[i],List.getElem?_eq_getElem hi,hp,by simp [List.getD,hi]⟩
theorem sx {h:Ho} (H:HoI h) {ip:Int} (hip:0≤ip∧ip≤4294967295) {s:Sg} (hs:sgB s=true):HoI (h.take ip s).h:=by
 unfold Ho.take
 cases hf:h.conns.findIdx? (hisB ip s) with
 | some i =>
   obtain ⟨c,hi,hp,hg⟩:=bV hf
   dsimp only
   rw [hg]
   have hI:=(H.ok c (List.mem_of_getElem? hi)).1.I
   have hS:=jb hI hs
   exact H.put hi (sO (x:=c.start) hI hs) hS.e1 hS.e2 hS.e3 hS.e4
 | none =>
   dsimp only
   have hno : ∀ c∈h.conns,hisB ip s c=false:=by simpa using hf
   unfold Ho.fresh
   refine aB (p:=fun r:Hs=>HoI r.h) (fun h4=>aB (p:=fun r:Hs=>HoI r.h) (fun _=>H) (fun hb=>?_)) (fun _=>H)
   simp only [Bool.or_eq_false_iff,Bool.not_eq_false', decide_eq_false_iff_not,beq_iff_eq,beq_eq_false_iff_ne] at hb
   obtain ⟨h1,h2,h3,h5,h6,h7⟩:=hb
   have hc:=H.count
   have hfl:=(fY hs).2.2.2.2.1
   have hop:fD (h.count + 1) ip (wadd 0 (64000 * (h.count + 1))) s=true:=by
    have b1:am (h.count + 1) 1099511627776=true:=by simp only [am,decide_eq_true_eq];omega
    have b2:am ip 4294967295=true:=by simp only [am,decide_eq_true_eq];omega
    have b3:am (wadd 0 (64000 * (h.count + 1))) 4294967295=true:=by have:=dK 0 (64000 * (h.count + 1));simp only [am,decide_eq_true_eq];omega
    unfold fD
    rw [b1,b2,b3,hs,h2,rX hfl,h3,h4]
    rfl
   refine H.more (xA hop).1 (by show ¬ (1:Int)=0;decide) rfl h1 (by omega) (by omega) (fun c hc2 e=>?_)
   have:=hno c hc2
   unfold hisB at this
   rw [h1,beq_self_eq_true,Bool.true_and] at this
   obtain ⟨e1,e2⟩:=e
   have e1:c.ip=ip:=e1
   have e2:c.pp=s.sp:=e2
   rw [e1,e2] at this
   simp at this
theorem wZ {h:Ho} (H:HoI h) {link:Int} {f:Cn→Stp} (hf : ∀ c,CnI c→h.at_ link≠none→c∈h.conns→c.link=link→CnI (f c).c∧StI c 8200 (f c)):HoI (h.withS link f).h:=by
 unfold Ho.withS
 cases ha:h.at_ link with
 | none=>exact H
 | some i =>
   unfold Ho.at_ at ha
   obtain ⟨c,hi,hp,hg⟩:=bV ha
   dsimp only
   rw [hg]
   have hm:=List.mem_of_getElem? hi
   obtain ⟨a,b⟩:=hf c (H.ok c hm).1.I (by unfold Ho.at_;rw [ha];simp) hm (by simpa using hp)
   exact H.put hi a b.e1 b.e2 b.e3 b.e4
theorem dY : ∀ (l:List Cn) (d:Cn),d∈(aq l).1 → ∃ c∈l,d=c.ticks.c∧d.st≠0
 | [],d,hd=>by simp [aq] at hd
 | c::l,d,hd=>by
   unfold aq at hd
   dsimp only at hd
   cases hs:(c.ticks.c.st == 0) with
   | true =>
     rw [hs,cond_true] at hd
     obtain ⟨x,a,b,e⟩:=dY l d hd
     exact ⟨x,by simp [a],b,e⟩
   | false =>
     rw [hs,cond_false] at hd
     rcases List.mem_cons.1 hd with rfl|hd
     ·exact ⟨c,by simp,rfl,by simpa using hs⟩
     ·obtain ⟨x,a,b,e⟩:=dY l d hd
      exact ⟨x,by simp [a],b,e⟩
theorem gp {R:Cn→Cn→Prop} (hR : ∀ a b,R a b→R a.ticks.c b.ticks.c) : ∀ (l:List Cn),l.Pairwise R→(aq l).1.Pairwise R
 | [],_=>by simp [aq]
 | c::l,h=>by
   rw [List.pairwise_cons] at h
   unfold aq
   dsimp only
   have ih:=gp hR l h.2
   cases (c.ticks.c.st == 0) with
   | true=>exact ih
   | false =>
     rw [cond_false,List.pairwise_cons]
     refine ⟨fun d hd=>?_,ih⟩
     obtain ⟨x,a,b,_⟩:=dY l d hd
     rw [b];exact hR _ _ (h.1 x a)
theorem fB : ∀ (l:List Cn),(aq l).1.length≤l.length
 | []=>by simp [aq]
 | c::l=>by
   have:=fB l
   unfold aq
   dsimp only
   cases (c.ticks.c.st == 0)<;>simp<;>omega
theorem nJ (c:Cn):c.aborts.c.link=c.link∧c.aborts.c.ip=c.ip∧c.aborts.c.pp=c.pp∧c.aborts.c.port=c.port:=by
 unfold Cn.aborts Stp.abort
 exact aB (p:=fun r:Stp=>r.c.link=c.link∧r.c.ip=c.ip∧r.c.pp=c.pp∧r.c.port=c.port) (fun _=>⟨rfl,rfl,rfl,rfl⟩) (fun _=>⟨rfl,rfl,rfl,rfl⟩)
theorem oH (x:Stp):x.again.c.link=x.c.link∧x.again.c.ip=x.c.ip∧x.again.c.pp=x.c.pp∧x.again.c.port=x.c.port:=by
 unfold Stp.again
 exact aB (p:=fun r:Stp=>r.c.link=x.c.link∧r.c.ip=x.c.ip∧r.c.pp=x.c.pp∧r.c.port=x.c.port) (fun _=>⟨rfl,rfl,rfl,rfl⟩) (fun _=>aB (p:=fun r:Stp=>r.c.link=x.c.link∧r.c.ip=x.c.ip∧r.c.pp=x.c.pp∧r.c.port=x.c.port) (fun _=>⟨rfl,rfl,rfl,rfl⟩) (fun _=>aB (p:=fun r:Stp=>r.c.link=x.c.link∧r.c.ip=x.c.ip∧r.c.pp=x.c.pp∧r.c.port=x.c.port) (fun _=>⟨rfl,rfl,rfl,rfl⟩) (fun _=>aB (p:=fun r:Stp=>r.c.link=x.c.link∧r.c.ip=x.c.ip∧r.c.pp=x.c.pp∧r.c.port=x.c.port) (fun _=>⟨rfl,rfl,rfl,rfl⟩) (fun _=>⟨rfl,rfl,rfl,rfl⟩))))
theorem dm (c:Cn):c.ticks.c.link=c.link∧c.ticks.c.ip=c.ip∧c.ticks.c.pp=c.pp∧c.ticks.c.port=c.port:=by
 unfold Cn.ticks
 exact aB (p:=fun r:Stp=>r.c.link=c.link∧r.c.ip=c.ip∧r.c.pp=c.pp∧r.c.port=c.port) (fun _=>aB (p:=fun r:Stp=>r.c.link=c.link∧r.c.ip=c.ip∧r.c.pp=c.pp∧r.c.port=c.port) (fun _=>⟨rfl,rfl,rfl,rfl⟩) (fun _=>aB (p:=fun r:Stp=>r.c.link=c.link∧r.c.ip=c.ip∧r.c.pp=c.pp∧r.c.port=c.port) (fun _=>nJ { c with tm:=aX c.tm }) (fun _=>oH ({ c with tm:=df (aX c.tm) } : Cn).start))) (fun _=>⟨rfl,rfl,rfl,rfl⟩)
theorem su {h:Ho} (H:HoI h):HoI h.tick.h:=by
 refine ⟨H.count,Nat.le_trans (fB h.conns) H.len,fun d hd=>?_,gp (fun a b e=>by rw [(dm a).1,(dm b).1];exact e) _ H.up,gp (fun a b e=>by rw [(dm a).2.1,(dm b).2.1,(dm a).2.2.1,(dm b).2.2.1];exact e) _ H.one⟩
 obtain ⟨c,hc,e,hst⟩:=dY h.conns d hd
 obtain ⟨k1,k2⟩:=H.ok c hc
 obtain ⟨n1,n2,n3,n4⟩:=dm c
 subst e
 exact ⟨⟨(fm k1.I).1,hst,by rw [n1];exact k1.le,by rw [n4];exact k1.port⟩,by rw [n1];exact k2⟩
def qRest (P:Program) (B:Base) (L:List Code) (Q:AExit→List AV→List Own→Prop) (sl:List AV) (h:List Own):Prop:=qAWs P B L Q sl h
theorem qRest.go {P:Program} (hm:P.follows .mixedOrders=true) {B:Base} {L:List Code} {c:Code} {Q:AExit→List AV→List Own→Prop} {sl:List AV} {h:List Own} (hc:aJ L=c) (H:ch sl fun sl=>cw h fun h=>ev P B c Q sl h):qRest P B L Q sl h :=
 qAWs.fin hm hc H
theorem qRest.of {P:Program} {B:Base} {L:List Code} {Q:AExit→List AV→List Own→Prop} {sl:List AV} {h:List Own} (H:qAWs P B L Q sl h):qRest P B L Q sl h:=H
theorem qRest.nil {P:Program} {B:Base} {Q:AExit→List AV→List Own→Prop} {sl:List AV} {h:List Own} (H:Q .normal sl h):qRest P B [] Q sl h:=H
theorem qRest.conv {P:Program} {B:Base} {a:Code} {L:List Code} {Q:AExit→List AV→List Own→Prop} {sl sl' : List AV} {h h' : List Own} (hc:qConv B sl h sl' h') (H:qRest P B (a::L) Q sl' h'):qRest P B (a::L) Q sl h:=by
 unfold qConv at hc
 exact AW.conv hc H
attribute [irreducible] qRest
theorem qAW.loopS {P:Program} {B:Base} {X:Type} {body:Code} {L:List Code} {Q:AExit→List AV→List Own→Prop} {sl:List AV} {h:List Own} (hL:spine body=L) (F:X→List AV) (G:X→List Own) (I:X→Prop) (μ:X→Nat) (x0:X) (hI:I x0) (h0:qConv B sl h (F x0) (G x0))
 (round : ∀ (E:AExit→List AV→List Own→Prop), ∀ x,I x→E=(fun e sl h=>match e with | .normal => ∃ y,I y∧μ y < μ x∧qConv B sl h (F y) (G y)|e=>Q e sl h)→qAWs P B L E (F x) (G x)):qAW P B (.loop body) Q sl h:=by
 unfold qAW
 unfold qConv at h0
 refine pX (P:=P) (X := { x:X // I x }) (fun x=>⟨F x.1,G x.1⟩) (fun x=>μ x.1) ⟨x0,hI⟩ h0 fun x=>AW.mono (AWs.spine body (by rw [hL];exact round _ x.1 x.2 rfl)) fun e st H=>?_
 cases e with
 | normal =>
   dsimp only [qQ] at H
   obtain ⟨y,h1,h2,h3⟩:=H
   unfold qConv at h3
   exact ⟨⟨y,h1⟩,h3,h2⟩
 | exit id=>exact H
 | goto l=>exact H
 | ret=>exact H
theorem AW.block {P:Program} {B:Base} {i:Nat} {c:Code} {Q:AExit→ASt→Prop} {st:ASt} (H:AW P B c (fJ i Q) st):AW P B (.block i c) Q st:=by
 intro m w a hs hev
 refine wp_block (wp_mono (H m w a hs hev) ?_)
 rintro e a' w' ⟨e', st', m', rfl,hq,hs', ev⟩
 cases e' with
 | normal=>exact ⟨.normal,st', m', rfl,hq,hs', ev⟩
 | exit id' =>
   simp only [aBlock_exit] at hq
   simp only [AExit.conc,Exit.inBlock]
   split
   ·rename_i e;rw [if_pos e] at hq;exact ⟨.normal,st', m', rfl,hq,hs', ev⟩
   ·rename_i e;rw [if_neg e] at hq;exact ⟨.exit id', st', m', rfl,hq,hs', ev⟩
 | goto l=>exact ⟨.goto l,st', m', rfl,hq,hs', ev⟩
 | ret=>exact ⟨.ret,st', m', rfl,hq,hs', ev⟩
theorem qAWs.block {P:Program} {B:Base} {i:Nat} {c:Code} {Lc L:List Code} {Q:AExit→List AV→List Own→Prop} {sl:List AV} {h:List Own} (hL:spine c=Lc)
 (H : ∀ (E:AExit→List AV→List Own→Prop),E=(fun e sl h=>match e with | .normal=>qRest P B L Q sl h | .exit j=>(if j=i then qRest P B L Q sl h else Q (.exit j) sl h)|e=>Q e sl h)→qAWs P B Lc E sl h):qAWs P B (.block i c::L) Q sl h:=by
 have H' := H _ rfl
 unfold qAWs
 unfold AWs
 refine AW.block (AW.mono (AWs.spine c (by rw [hL];exact H')) fun e st H=>?_)
 dsimp only [qQ] at H
 unfold qRest at H
 cases e with
 | normal=>exact H
 | exit j =>
   rw [aBlock_exit]
   dsimp only at H
   split
   ·rename_i e;rw [if_pos e] at H;exact H
   ·rename_i e;rw [if_neg e] at H;exact H
 | goto l=>exact H
 | ret=>exact H
def apF:List (Nat × Own)→List Own→(List Own→Prop)→Prop
 | [],l,K=>K l
 | (n,o)::T,l,K=>frcL (setO l n o) fun l' => apF T l' K
theorem rG : ∀ (T:List (Nat × Own)) (l:List Own) (K:List Own→Prop),apF T l K=K (apE l T)
 | [],l,K=>rfl
 | (n,o)::T,l,K=>by
   unfold apF apE
   rw [ca,rG T]
theorem qCall.ofX {P:Program} {f:FuncId} {args:List AV} {L0 L1:List Own} {res:AV} (H:ACallL P f args L0 res L1) (own imm bor fr:Prs) (T:List (Nat × Own)) (res' : AV) (OL OI EA:Prs) {aa:List AV} {h:List Own} {K:AV→List Nat→List Nat→List Own→Prop}
 (hk:fC L0 L1 h own imm bor fr T=true) (h1:outL L1 own fr=OL) (h2:outI L1 imm bor fr=OI) (h3:dD L1 imm=EA)
 (hq:avsE own.swap imm.swap bor.swap h aa args (fz (qOf own.swap imm.swap bor.swap) h L0 own.swap (aftE (qOf OL OI []) L1 T own (aftE (qOf OL OI []) L1 T fr
  (av2E OL OI [] L1 res res' (cg (own.map (·.2) ++ imm.map (·.2) ++ bor.map (·.2) ++ fr.map (·.2)) fun rd=>cg (own.map (·.2) ++ EA.map (·.2) ++ fr.map (·.2)) fun wr=>eN (wr.map fun x=>(x,look T x)) fun T=>apF T h fun h' => frcW res' fun res' => K res' rd wr h')))))):qCall P f aa h K:=by
 subst h1 h2 h3
 simp only [rG] at hq
 exact qCall.of H own imm bor fr T res' hk (by simpa only [ca] using hq)
theorem qcx {P:Program} {f:FuncId} {args:List AV} {L0 L1:List Own} {res:AV} (H:ACallL P f args L0 res L1) (own imm bor fr:Prs) (T:List (Nat × Own)) (res' : AV) (OL OI EA:Prs) {aa:List AV} {h:List Own} {K:AV→List Nat→List Nat→List Own→Prop}
 (hq:fC L0 L1 h own imm bor fr T=true∧outL L1 own fr=OL∧outI L1 imm bor fr=OI∧dD L1 imm=EA∧avsE own.swap imm.swap bor.swap h aa args (fz (qOf own.swap imm.swap bor.swap) h L0 own.swap (aftE (qOf OL OI []) L1 T own (aftE (qOf OL OI []) L1 T fr
  (av2E OL OI [] L1 res res' (cg (own.map (·.2) ++ imm.map (·.2) ++ bor.map (·.2) ++ fr.map (·.2)) fun rd=>cg (own.map (·.2) ++ EA.map (·.2) ++ fr.map (·.2)) fun wr=>eN (wr.map fun x=>(x,look T x)) fun T=>apF T h fun h' => frcW res' fun res' => K res' rd wr h')))))):qCall P f aa h K:=qCall.ofX H own imm bor fr T res' OL OI EA hq.1 hq.2.1 hq.2.2.1 hq.2.2.2.1 hq.2.2.2.2
abbrev snR (r:Nat) (p:Int × Sg):List AV := .val (.int .i64 p.1)::sgR r p.2
abbrev snG (r:Nat) (p:Int × Sg):List AV := .val (.int .i64 p.1)::sgG r p.2
abbrev hdG (r:Nat) (x:Hd):List AV:=[.val (.int .i64 x.link),gL r x.data,.val (.bool x.fin)]
abbrev hdR (r:Nat) (x:Hd):List AV:=[.val (.int .i64 x.link),bL r x.data,.val (.bool x.fin)]
abbrev hoR (h:Ho):List AV:=[.list 0 16 (h.conns.map (cnR 0)),.val (.int .i64 h.count)]
theorem aQ (l:List Cn):PlRows (l.map (cnR 0)):=PlRows.mapF l (cnR 0) fun c _=>by
 have:=al c.out
 have:=ar c.parts
 exact plT
theorem nq (s:Sg) (hs:s.data.length≤100000000):ACallL Tryz.prog 114 [.agg (sgR 0 s)] [.perm] (.agg (sgL (.val (.slice none 0 0)) (bm s))) [.perm]:=by
 have px:=al s.data
 have cL:=kv s hs
 dsimp only [sgR,sgL] at cL ⊢
 obtain ⟨n,hn⟩ : ∃ n,s.len=n:=⟨_,rfl⟩
 obtain ⟨b,hb⟩ : ∃ b,flN s.fl 16=b:=⟨_,rfl⟩
 unfold bm
 rw [hb]
 unfold flN at hb
 rw [hn] at cL ⊢
 cases b
 all_goals
  refine ACallL.of_ev af Tryz.func114 rfl (fun a w=>Tryz.call114 a w) (congrArg Array.toList Tryz.results114) Tryz.ntmps114 fun B hB=>?_
  ((conv=>whnf);(repeat' ((first|refine gT ?_|((with_reducible refine ai ?_ ?_);focus (simp;done))|((with_reducible refine aj ?_ ?_);focus (simp;done))|(with_reducible refine ab (fun _=>?_) (fun _=>?_))|((with_reducible refine qcp (cL) ?_);refine pT ?_)|((with_reducible refine qcp (an _ _) ?_);refine pT ?_))<;>(conv=>whnf))))
  all_goals (refine qcv hB [] [(0,0)] [] ?_;repeat' (with_reducible first|exact trivial|refine And.intro ?_ ?_))
  all_goals first|rfl|simp_all
theorem vU (a b:Cn):ACallL Tryz.prog 77 [.agg (cnR 0 a),.agg (cnR 0 b)] [.perm] (.val (.bool (endP a.st b.st))) [.perm]:=by
 have:=al a.out
 have:=ar a.parts
 have:=al b.out
 have:=ar b.parts
 dsimp only [cnR,cnL]
 unfold endP
 refine ACallL.of_ev af Tryz.func77 rfl (fun a w=>Tryz.call77 a w) (congrArg Array.toList Tryz.results77) Tryz.ntmps77 fun B hB=>?_
 ((conv=>whnf);(repeat' ((first|refine gT ?_|(with_reducible refine ab (fun _=>?_) (fun _=>?_)))<;>(conv=>whnf))))
 all_goals (refine qcv hB [] [(0,0)] [] ?_;repeat' (with_reducible first|exact trivial|refine And.intro ?_ ?_))
 all_goals (congr 1;first|(simp_all;done)|(simp_all [bne];done)|(simp_all [bne];intro h;simp_all;done)|skip)
theorem fX (h:Ho) (hl:h.conns.length≤100):ACallL Tryz.prog 113 [.agg (hoR h)] [.perm] (.val (.int .i64 (synN h.conns))) [.perm]:=by
 have px:=aQ h.conns
 have ll:(h.conns.map (cnR 0)).length=h.conns.length:=by simp
 dsimp only [hoR]
 refine ACallL.of_ev af Tryz.func113 rfl (fun a w=>Tryz.call113 a w) (congrArg Array.toList Tryz.results113) Tryz.ntmps113 fun B hB=>?_
 ((conv=>whnf);(repeat' ((first|refine gT ?_|(with_reducible refine ab (fun _=>?_) (fun _=>?_)))<;>(conv=>whnf))))
 refine qAW.loopE af (X:=Nat) (fun k=>ap 19 [(2,.val (.int .i64 (synN (h.conns.take k)))),(6,.list 0 16 (h.conns.map (cnR 0))),(7,.val (.int .i64 (h.conns.map (cnR 0)).length)),(8,.val (.int .i64 k))]) (fun k=>[.perm])
  (fun k=>k≤h.conns.length) (fun k=>h.conns.length - k) 0 (Nat.zero_le _) ?_ ?_
 ·(refine qcv hB [] [(0,0)] [] ?_;repeat' (with_reducible first|exact trivial|refine And.intro ?_ ?_))
  all_goals rfl
 ·rintro E k hk hE
  by_cases hlt:k < h.conns.length
  ·obtain ⟨c,hc⟩ : ∃ p,h.conns[k]?=some p:=⟨_,List.getElem?_eq_getElem hlt⟩
   have hrow:(h.conns.map (cnR 0))[(k:Int).toNat]?=some (cnR 0 c):=by simp [hc]
   have:=al c.out
   have:=ar c.parts
   have w:=IntWalk.i64_in (k + 1) (by omega)
   have hsn:synN (h.conns.take (k + 1))=synN (h.conns.take k) + (if c.st=1 then 1 else 0):=by
    unfold synN
    rw [bj hc,List.filter_append,List.length_append]
    by_cases h1:c.st=1<;>simp [h1]
   have hle:synN (h.conns.take k)≤k:=by
    unfold synN
    exact Nat.le_trans (List.length_filter_le _ _) (by simp;omega)
   have w2:=IntWalk.i64_in ((synN (h.conns.take k):Nat) + 1) (by omega)
   by_cases h1:c.st=1
   ·rw [if_pos h1] at hsn
    subst hE
    ((conv=>whnf);(repeat' ((first|refine gT ?_|((with_reducible refine ai ?_ ?_);focus (simp [hlt,h1];done))|((with_reducible refine aj ?_ ?_);focus (simp [hlt,h1];done))|(with_reducible refine ab (fun _=>?_) (fun _=>?_))|(refine ak (idxL rfl rfl rfl rfl rfl rfl (by omega) hrow) ?_))<;>(conv=>whnf))))
    refine ⟨k + 1,by omega,by omega,?_⟩
    dsimp only
    rw [hsn]
    (refine qcv hB [] [(0,0)] [] ?_;repeat' (with_reducible first|exact trivial|refine And.intro ?_ ?_))
    all_goals first|rfl|(simp [w];done)|(simp [w2];done)
   ·rw [if_neg h1] at hsn
    subst hE
    ((conv=>whnf);(repeat' ((first|refine gT ?_|((with_reducible refine ai ?_ ?_);focus (simp [hlt,h1];done))|((with_reducible refine aj ?_ ?_);focus (simp [hlt,h1];done))|(with_reducible refine ab (fun _=>?_) (fun _=>?_))|(refine ak (idxL rfl rfl rfl rfl rfl rfl (by omega) hrow) ?_))<;>(conv=>whnf))))
    refine ⟨k + 1,by omega,by omega,?_⟩
    dsimp only
    rw [hsn]
    (refine qcv hB [] [(0,0)] [] ?_;repeat' (with_reducible first|exact trivial|refine And.intro ?_ ?_))
    all_goals first|rfl|(simp [w];done)|(simp [w2];done)
  ·have e:h.conns.take k=h.conns:=List.take_of_length_le (by omega)
   rw [e]
   subst hE
   ((conv=>whnf);(repeat' ((first|refine gT ?_|((with_reducible refine ai ?_ ?_);focus (simp [hlt];done))|((with_reducible refine aj ?_ ?_);focus (simp [hlt];done))|(with_reducible refine ab (fun _=>?_) (fun _=>?_)))<;>(conv=>whnf))))
   (refine qcv hB [] [(0,0)] [] ?_;repeat' (with_reducible first|exact trivial|refine And.intro ?_ ?_))
abbrev rsN (o p d t s e:Nat) (x:Stp):List AV:=spL (bL o x.c.out) (.list p 2 (x.c.parts.map (prt d))) (.glist s 7 (x.out.map (sgR e))) (bL t x.told) x.c
abbrev rsO (row:List AV):Own := .live ⟨18,109,[row]⟩
theorem dr {L I F:Prs} {h:Hp} {r r' : Nat} (h0:I.has r r' = true) (l:List Sg):RowsRen (qOf L I F) h (l.map (sgR r)) (l.map (sgR r')) :=
 RowsRen.mapF l _ _ fun m _ => .cons (.val _) (.cons (.val _) (.cons (.val _) (.cons (.val _) (.cons (.val _) (.cons (.val _) (.cons (Ren.ll h0 m.data) .nil))))))
theorem o9 {L I F:Prs} {h:Hp} {r r' : Nat} (h0:I.has r r' = true) (l:List Sg):RowsRen (qOf L I F) h (l.map (sgG r)) (l.map (sgR r')) :=
 RowsRen.mapF l _ _ fun m _ => .cons (.val _) (.cons (.val _) (.cons (.val _) (.cons (.val _) (.cons (.val _) (.cons (.val _) (.cons (Ren.g2 h0 m.data) .nil))))))
theorem Ren.sll {L I F:Prs} {h:Hp} {r r' d d' : Nat} (h0:I.has r r' = true) (h1:I.has d d' = true) (l:List Sg):Ren (qOf L I F) h (.glist r 7 (l.map (sgR d))) (.glist r' 7 (l.map (sgR d'))):=by
 obtain ⟨a,b,c⟩:=dr (L:=L) (I:=I) (F:=F) (h:=h) h1 l
 exact .glist _ _ _ _ _ ((Prs.has_iff I r r').1 h0) a b c
theorem Ren.sll1 {L I F:Prs} {h:Hp} {r r' d d' e:Nat} {row:List AV} {m:Sg} {l:List Sg} (h0:I.has r r' = true) (h1:I.has d d' = true) (hr:row=sgG e m) (h2:I.has e d' = true):Ren (qOf L I F) h (.glist r 7 (l.map (sgR d) ++ [row])) (.glist r' 7 ((l ++ [m]).map (sgR d'))):=by
 subst hr
 obtain ⟨a,b,c⟩:=(dr (L:=L) (I:=I) (F:=F) (h:=h) h1 l).app (o9 (L:=L) (I:=I) (F:=F) (h:=h) h2 [m])
 rw [← List.map_append] at a b c
 exact .glist _ _ _ _ _ ((Prs.has_iff I r r').1 h0) a b c
theorem Ren.sllN {L I F:Prs} {h:Hp} {r r' d d' : Nat} {row:List AV} {m:Sg} {l:List Sg} (h0:I.has r r' = true) (h1:I.has d d' = true) (hd:m.data=[]) (hr:row=sgL (.val (.slice none 0 0)) m):Ren (qOf L I F) h (.glist r 7 (l.map (sgR d) ++ [row])) (.glist r' 7 ((l ++ [m]).map (sgR d'))):=by
 subst hr
 have e:RowsRen (qOf L I F) h [sgL (.val (.slice none 0 0)) m] ([m].map (sgR d')):=by
  refine RowsRen.one (.cons (.val _) (.cons (.val _) (.cons (.val _) (.cons (.val _) (.cons (.val _) (.cons (.val _) (.cons ?_ .nil)))))))
  rw [hd]
  exact .vnil _ _
 obtain ⟨a,b,c⟩:=(dr (L:=L) (I:=I) (F:=F) (h:=h) h1 l).app e
 rw [← List.map_append] at a b c
 exact .glist _ _ _ _ _ ((Prs.has_iff I r r').1 h0) a b c
theorem Ren.pg2 {L I F:Prs} {h:Hp} {r r' d d' : Nat} (h0:I.has r r' = true) (h1:I.has d d' = true) (l:List Pt):Ren (qOf L I F) h (.list r 2 (l.map (prg d))) (.list r' 2 (l.map (prt d'))):=by
 obtain ⟨a,b,c⟩:=uL (L:=L) (I:=I) (F:=F) (h:=h) h1 l
 exact .list _ _ _ _ _ ((Prs.has_iff I r r').1 h0) a b c
theorem eX {p:Prop} (h:p:=by first|((first|rfl|(refine RowsRen.one ?_;(repeat (refine Cells.cons ?_ ?_;focus (first|exact .val _|exact Ren.ll rfl _|exact Ren.gg rfl _|exact Ren.g2 rfl _|exact Ren.vnil _ _|exact Ren.vgnil _ _|exact Ren.sll rfl rfl _|exact Ren.sllN rfl rfl rfl rfl|exact Ren.sll1 rfl rfl rfl rfl|exact Ren.pll rfl rfl _|fail)));exact Cells.nil)|exact dr rfl _|exact br rfl _|exact aH _);done)|fail):p:=h
theorem gE (x:Stp) (seq fl:Int) (data:List Int) (hd:data.length≤100000000) (hs:x.out.length≤100000000) :
 ACallL Tryz.prog 96 [.ptr 1 0 0,.val (.int .i64 seq),.val (.int .i64 fl),bL 2 data] [.perm,rsO (rsN 2 3 4 5 6 7 x),.perm,.perm,.perm,.perm,.uniq,.uniq]
  (.tup []) [.perm,rsO (rsN 2 3 4 5 8 9 (x.seg seq fl data)),.perm,.perm,.perm,.perm,.dead,.dead,.uniq,.uniq]:=by
 dsimp only [rsN,spL,Stp.seg] at hs ⊢
 refine ACallL.of_ev af Tryz.func96 rfl (fun a w=>Tryz.call96 a w) (congrArg Array.toList Tryz.results96) Tryz.ntmps96 fun B hB=>?_
 ((conv=>whnf);(repeat' ((first|refine gT ?_|(with_reducible refine ab (fun _=>?_) (fun _=>?_)))<;>(conv=>whnf))))
 ((with_reducible refine qcf (fun r=>gL r data) (bK data hd) [(0,2)] [] ?_);refine sT ?_)
 ((conv=>whnf);(repeat' ((first|refine gT ?_|(with_reducible refine ab (fun _=>?_) (fun _=>?_))|(refine ak (apG (nb:=72) rfl rfl rfl rfl rfl rfl rfl rfl rfl rfl (by decide) rfl (by simp;omega)) ?_))<;>(conv=>whnf))))
 (refine qcv hB [(1,1)] [(0,0),(2,2),(3,3),(4,4),(5,5),(10,8),(7,9),(8,9)] [] ?_;repeat' (with_reducible first|exact trivial|refine And.intro ?_ ?_))
 all_goals (try exact eX)
theorem lJ (x:Stp) (hs:x.out.length≤100000000) :
 ACallL Tryz.prog 107 [.ptr 1 0 0] [.perm,rsO (rsN 2 3 4 5 6 7 x),.perm,.perm,.perm,.perm,.uniq,.uniq]
  (.tup []) [.perm,rsO (rsN 2 3 4 5 8 9 x.acks),.perm,.perm,.perm,.perm,.dead,.dead,.uniq,.uniq]:=by
 have cS:=gE x x.c.nx 16 [] (by simp) hs
 have e:x.seg x.c.nx 16 []=x.acks:=rfl
 rw [e] at cS
 dsimp only [rsN,spL] at hs cS ⊢
 refine ACallL.of_ev af Tryz.func107 rfl (fun a w=>Tryz.call107 a w) (congrArg Array.toList Tryz.results107) Tryz.ntmps107 fun B hB=>?_
 ((conv=>whnf);(repeat' ((first|refine gT ?_|(with_reducible refine ab (fun _=>?_) (fun _=>?_)))<;>(conv=>whnf))))
 ((with_reducible refine qco (cS) [(1,1)] [(0,0),(2,2),(3,3),(4,4),(5,5),(6,6),(7,7)] [] [(8,8),(9,9)] [(1,rsO (rsN 2 3 4 5 8 9 x.acks)),(6,.dead),(7,.dead),(8,.uniq),(9,.uniq)] (.tup []) ?_);refine sT ?_)
 ((conv=>whnf);(repeat' ((first|refine gT ?_|(with_reducible refine ab (fun _=>?_) (fun _=>?_)))<;>(conv=>whnf))))
 (refine qcv hB [(1,1)] [(0,0),(2,2),(3,3),(4,4),(5,5),(8,8),(9,9)] [] ?_;repeat' (with_reducible first|exact trivial|refine And.intro ?_ ?_))
 all_goals (try exact eX)
theorem jo (x:Stp) :
 ACallL Tryz.prog 97 [.ptr 1 0 0] [.perm,rsO (rsN 2 3 4 5 6 7 x),.perm,.perm,.perm,.perm,.perm,.perm]
  (.tup []) [.perm,rsO (rsN 2 3 4 5 6 7 x.shut),.perm,.perm,.perm,.perm,.perm,.perm]:=by
 dsimp only [rsN,spL]
 refine ACallL.of_ev af Tryz.func97 rfl (fun a w=>Tryz.call97 a w) (congrArg Array.toList Tryz.results97) Tryz.ntmps97 fun B hB=>?_
 ((conv=>whnf);(repeat' ((first|refine gT ?_|(with_reducible refine ab (fun _=>?_) (fun _=>?_)))<;>(conv=>whnf))))
 (refine qcv hB [(1,1)] [(0,0),(2,2),(3,3),(4,4),(5,5),(6,6),(7,7)] [] ?_;repeat' (with_reducible first|exact trivial|refine And.intro ?_ ?_))
 all_goals (try exact eX)
theorem fG (c:Cn) (hc:aA c):ACallL Tryz.prog 89 [.agg (cnR 0 c)] [.perm] (.ptr 1 0 0) [.perm,rsO (rsN 2 3 4 5 6 7 c.start),.uniq,.uniq,.uniq,.uniq,.uniq,.uniq]:=by
 have cO:=ii c hc
 unfold Cn.start
 dsimp only [cnR,cnL,cnG,rsN,spL] at cO ⊢
 refine ACallL.of_ev af Tryz.func89 rfl (fun a w=>Tryz.call89 a w) (congrArg Array.toList Tryz.results89) Tryz.ntmps89 fun B hB=>?_
 ((conv=>whnf);(repeat' ((first|refine gT ?_|(with_reducible refine ab (fun _=>?_) (fun _=>?_)))<;>(conv=>whnf))))
 ((with_reducible refine qco (cO) [] [(0,0)] [] [(1,2),(2,3),(3,4)] [(2,.uniq),(3,.uniq),(4,.uniq)] (.agg (cnG 2 3 4 c)) ?_);refine sT ?_)
 ((conv=>whnf);(repeat' ((first|refine gT ?_|(with_reducible refine ab (fun _=>?_) (fun _=>?_)))<;>(conv=>whnf))))
 (refine qcv hB [(5,1)] [(0,0),(2,2),(3,3),(4,4)] [] ?_;repeat' (with_reducible first|exact trivial|refine And.intro ?_ ?_))
 all_goals (try (first|rfl|(refine RowsRen.one ?_;(repeat (refine Cells.cons ?_ ?_;focus (first|exact .val _|exact Ren.g2 rfl _|exact Ren.pg2 rfl rfl _|exact Ren.vnil _ _|exact Ren.vgnil _ _|fail)));exact Cells.nil)))
theorem nO (r:Nat) (l:List (Int × Sg)):(l.map (snG r)).all (fun r=>r.all AV.one)=true:=by simp [AV.one,Value.oneCell']
theorem ay {L I F:Prs} {h:Hp} {r r' : Nat} (h0:I.has r r' = true) (l:List (Int × Sg)):RowsRen (qOf L I F) h (l.map (snR r)) (l.map (snR r')) :=
 RowsRen.mapF l _ _ fun p _ => .cons (.val _) (.cons (.val _) (.cons (.val _) (.cons (.val _) (.cons (.val _) (.cons (.val _) (.cons (.val _) (.cons (Ren.ll h0 p.2.data) .nil)))))))
theorem bf {L I F:Prs} {h:Hp} {r r' : Nat} (h0:I.has r r' = true) (l:List (Int × Sg)):RowsRen (qOf L I F) h (l.map (snG r)) (l.map (snG r')) :=
 RowsRen.mapF l _ _ fun p _ => .cons (.val _) (.cons (.val _) (.cons (.val _) (.cons (.val _) (.cons (.val _) (.cons (.val _) (.cons (.val _) (.cons (Ren.gg h0 p.2.data) .nil)))))))
theorem to_l (ip:Int) (l:List Sg) (hl:l.length≤100000):ACallL Tryz.prog 62 [.val (.int .i64 ip),.list 1 7 (l.map (sgG 2))] [.perm,.perm,.perm] (.glist 3 8 ((toS ip l).map (snG 2))) [.perm,.perm,.perm,.uniq]:=by
 have ll:(l.map (sgG 2)).length=l.length:=by simp
 have e0:toS ip l=l.map fun s=>(ip,s):=rfl
 rw [e0]
 refine ACallL.of_ev af Tryz.func62 rfl (fun a w=>Tryz.call62 a w) (congrArg Array.toList Tryz.results62) Tryz.ntmps62 fun B hB=>?_
 ((conv=>whnf);(repeat' ((first|refine gT ?_|(with_reducible refine ab (fun _=>?_) (fun _=>?_)))<;>(conv=>whnf))))
 refine qAW.loopE af (X:=Nat) (fun k=>ap 21 [(0,.val (.int .i64 ip)),(4,.glist 3 8 (((l.take k).map fun s=>(ip,s)).map (snG 2))),(7,.list 1 7 (l.map (sgG 2))),(8,.val (.int .i64 (l.map (sgG 2)).length)),(9,.val (.int .i64 k))]) (fun k=>[.perm,.perm,.perm,.uniq])
  (fun k=>k≤l.length) (fun k=>l.length - k) 0 (Nat.zero_le _) ?_ ?_
 ·(refine qcv hB [] [(0,0),(1,1),(2,2)] [] ?_;repeat' (with_reducible first|exact trivial|refine And.intro ?_ ?_))
  all_goals first|rfl|exact bq rfl _
 ·rintro E k hk hE
  by_cases hlt:k < l.length
  ·obtain ⟨c,hc⟩ : ∃ p,l[k]?=some p:=⟨_,List.getElem?_eq_getElem hlt⟩
   have hrow:(l.map (sgG 2))[(k:Int).toNat]?=some (sgG 2 c):=by simp [hc]
   have w:=IntWalk.i64_in (k + 1) (by omega)
   have hb:(((l.take k).map fun s=>(ip,s)).map (snG 2)).length + 1≤100001:=by simp;omega
   have hap:((l.take k).map fun s=>(ip,s)).map (snG 2) ++ [snG 2 (ip,c)]=((l.take (k + 1)).map fun s=>(ip,s)).map (snG 2):=by rw [bj hc];simp
   subst hE
   ((conv=>whnf);(repeat' ((first|refine gT ?_|((with_reducible refine ai ?_ ?_);focus (simp [hlt];done))|((with_reducible refine aj ?_ ?_);focus (simp [hlt];done))|(with_reducible refine ab (fun _=>?_) (fun _=>?_))|(refine ak (idxL rfl rfl rfl rfl rfl rfl (by omega) hrow) ?_)|(refine ak (apG' (nb:=80) rfl rfl rfl rfl rfl rfl rfl rfl rfl rfl (by decide) rfl (Nat.le_trans (Nat.mul_le_mul_right _ hb) (by decide)) hap) ?_))<;>(conv=>whnf))))
   refine ⟨k + 1,by omega,by omega,?_⟩
   (refine qcv hB [] [(0,0),(1,1),(2,2),(6,3)] [] ?_;repeat' (with_reducible first|exact trivial|refine And.intro ?_ ?_))
   all_goals first|rfl|exact bf rfl _|exact bq rfl _|(simp [w];done)
  ·have e:l.take k=l:=List.take_of_length_le (by omega)
   rw [e]
   subst hE
   ((conv=>whnf);(repeat' ((first|refine gT ?_|((with_reducible refine ai ?_ ?_);focus (simp [hlt];done))|((with_reducible refine aj ?_ ?_);focus (simp [hlt];done))|(with_reducible refine ab (fun _=>?_) (fun _=>?_)))<;>(conv=>whnf))))
   (refine qcv hB [] [(0,0),(1,1),(2,2),(3,3)] [] ?_;repeat' (with_reducible first|exact trivial|refine And.intro ?_ ?_))
   all_goals first|rfl|exact bf rfl _
theorem vj (ip:Int) (m:Sg):ACallL Tryz.prog 62 [.val (.int .i64 ip),.list 1 7 [sgL (.val (.slice none 0 0)) m]] [.perm,.perm] (.glist 2 8 [.val (.int .i64 ip)::sgL (.val (.slice none 0 0)) m]) [.perm,.perm,.uniq]:=by
 have w2:decide (IntKind.i64.wrap (0 + 1) < ((([sgL (AV.val (Value.slice none 0 0)) m]:List (List AV)).length:Nat):Int))=false:=by
  rw [show IntKind.i64.wrap (0 + 1)=1 by decide];rfl
 refine ACallL.of_ev af Tryz.func62 rfl (fun a w=>Tryz.call62 a w) (congrArg Array.toList Tryz.results62) Tryz.ntmps62 fun B hB=>?_
 ((conv=>whnf);(repeat' ((first|refine gT ?_|((with_reducible refine ai ?_ ?_);focus (simp;done))|((with_reducible refine aj ?_ ?_);focus (simp;done))|(with_reducible refine ab (fun _=>?_) (fun _=>?_))|(refine qAW.unroll af 2 ?_))<;>(conv=>whnf))))
 all_goals (refine qcv hB [] [(0,0),(1,1)] [(4,2)] ?_;repeat' (with_reducible first|exact trivial|refine And.intro ?_ ?_))
 all_goals first|rfl|exact RowsRen.vals rfl rfl|(exact ao)
theorem lH {P:Program} {ops:Array Oper} {o:Oper} {a:Go.Act} {w:World} {K:Go.Act→World→Prop} {Q:Exit→Go.Act→World→Prop} {E:Prop}
 (hg:o.guard=none) (s x:Operand) (t:TypeId) (hop:o.op=Op.call { callee:=Callee.builtin Builtin.append,args := #[s,x],argTypes := #[t,t] })
 (e e0:TypeId) (i:TypeInfo) (h1:P.underlying t=some (.slice e)) (h2:P.info? e=some i)
 (b off n cap:Nat) (cur:Array Value) (hb:w.heap[b]?=some (.cells cur e0 (0,0))) (hs:a.eval s = .slice (some ⟨b,off,none⟩) n cap)
 (ad:Addr) (m c:Nat) (news:List Value) (hx:a.eval x = .slice (some ad) m c) (hn:news.length=m * i.size) (hc : ∀ j u,news[j]?=some u→w.cell? (ad.add j)=some u) (h1c : ∀ u∈news,u.oneCell' = true)
 (hroom:n + m≤cap) (hfit:off + n * i.size + news.length≤cur.size)
 (hK:K (a.put o.dst (.slice (some ⟨b,off,none⟩) (n + m) cap)) (w.setRow b (cur.toList.take (off + n * i.size) ++ news ++ cur.toList.drop (off + n * i.size + news.length)).toArray)) :
 if Region.wanted o (yielded ops a.tmps)=true then Oper.wp P o a w K Q else E:=by
 have hw:Region.wanted o (yielded ops a.tmps)=true:=by simp [Region.wanted,hg]
 rw [if_pos hw]
 have hrun:=gQ (P:=P) w t t o.type e e0 i h1 h1 h2 b off n cap cur hb ad m c news hn hc h1c hroom hfit
 unfold Oper.wp
 simp only [execOp,hop,resolve,invoke,builtin,List.map_toArray,List.map_cons,List.map_nil,hs,hx,Sem.run_bind,Sem.run_pure,Result.andThen_ok,hrun]
 exact hK
theorem mF {P:Program} (w:World) (t e ty:TypeId) (z:Value) (zs:List Value) (ht:P.underlying t=some (.slice e)) (hv : ∀ w,(zeroValue e).run P w = .ok z w) (b o n c:Nat) (hn:0 < n) (hz:(Builtin.zeroCells z.cells n).toList=zs) (h1 : ∀ v∈zs,v.oneCell' = true) (e0:TypeId) (cur:Array Value) (hb:w.heap[b]?=some (.cells cur e0 (0,0)))
 (hfit:o + zs.length≤cur.size) :
 (Builtin.clear_ #[t] ty #[.slice (some ⟨b,o,none⟩) n c]).run P w = .ok (.tuple #[]) (w.setRow b (cur.toList.take o ++ zs ++ cur.toList.drop (o + zs.length)).toArray):=by
 have hst:=run_storeCells_at P b o e0 zs 0 cur w hb (by simpa using hfit) h1
 simp only [Nat.add_zero] at hst
 obtain ⟨m,rfl⟩ : ∃ m,n=m + 1:=⟨n - 1,by omega⟩
 simp [Builtin.clear_,run_underlying ht,hv,hz,hst]
def delC (zs cur:List Value) (off sz i n:Nat):List Value:=cur.take (off + i * sz) ++ (cur.drop (off + (i + 1) * sz)).take ((n - 1 - i) * sz) ++ zs ++ cur.drop (off + n * sz)
abbrev zN:List Value:=[.int .i64 0,.int .i64 0,.int .i64 0,.int .i64 0,.int .i64 0,.int .i64 0,.int .i64 0,.int .i64 0,.slice none 0 0,.int .i64 0,.slice none 0 0,.bool false,.bool false,.int .i64 0,.int .i64 0,.int .i64 0]
theorem uz (g off n cap i j:Nat) (cur:Array Value) (e0:TypeId) (w:World) (hg:w.heap[g]?=some (.cells cur e0 (0,0))) (hj:j=i + 1) (hi:i < n) (hnc:n≤cap) (hm:cap≤9223372036854775807) (hfit:off + n * 16≤cur.size)
 (h1 : ∀ (k:Nat) v,off≤k→k < off + n * 16→cur[k]?=some v→v.oneCell' = true) :
 Calls Tryz.prog 117 #[.slice (some ⟨g,off,none⟩) n cap,.int .i64 i,.int .i64 j] w fun e w' =>
  e = .returned (.slice (some ⟨g,off,none⟩) (n - 1) cap)∧w' = w.drew.setRow g (delC zN cur.toList off 16 i n).toArray:=by
 obtain ⟨i0,hi0,hz0,hz1⟩ : ∃ q,(Tryz.prog).info? 50=some q∧q.zero=some (.agg #[.int .i64 0,.int .i64 0,.int .i64 0,.int .i64 0,.int .i64 0,.int .i64 0,.int .i64 0,.int .i64 0,.slice none 0 0,.int .i64 0,.slice none 0 0,.bool false,.bool false,.int .i64 0,.int .i64 0,.int .i64 0])∧q.size=16:=by
  have:((Tryz.prog).info? 50).map (fun q=>(q.zero,q.size))=some (some (.agg #[.int .i64 0,.int .i64 0,.int .i64 0,.int .i64 0,.int .i64 0,.int .i64 0,.int .i64 0,.int .i64 0,.slice none 0 0,.int .i64 0,.slice none 0 0,.bool false,.bool false,.int .i64 0,.int .i64 0,.int .i64 0]),16):=by kernel_rfl
  simp only [Option.map_eq_some_iff,Prod.mk.injEq] at this
  obtain ⟨q,h1,h2,h3⟩:=this
  exact ⟨q,h1,h2,h3⟩
 have ht:=Tryz.underlying22
 have hv : ∀ w,(zeroValue 50).run Tryz.prog w = .ok (.agg #[.int .i64 0,.int .i64 0,.int .i64 0,.int .i64 0,.int .i64 0,.int .i64 0,.int .i64 0,.int .i64 0,.slice none 0 0,.int .i64 0,.slice none 0 0,.bool false,.bool false,.int .i64 0,.int .i64 0,.int .i64 0]) w:=fun w=>by simp [zeroValue,typeInfo,hi0,hz0]
 have hu:=fun w=>run_underlying (w:=w) ht
 obtain ⟨news,hnews⟩ : ∃ news,news=(cur.toList.drop (off + (i + 1) * 16)).take ((n - 1 - i) * 16):=⟨_,rfl⟩
 have hlen:news.length=(n - j) * 16:=by rw [hnews];simp;omega
 have hget : ∀ t u,news[t]?=some u→t < (n - j) * 16∧cur[off + (i + 1) * 16 + t]?=some u:=by
  intro t u hu
  have hlt:=(List.getElem?_eq_some_iff.1 hu).1
  rw [hnews,List.getElem?_take,if_pos (by omega),List.getElem?_drop] at hu
  exact ⟨by omega,by simpa using hu⟩
 obtain ⟨A,hA,hsrc⟩ : ∃ A:Addr,(if cap=j then some (⟨g,off,none⟩:Addr) else some ⟨g,off + j * 16,none⟩)=some A∧Hid (∀ t u,news[t]?=some u→w.drew.cell? (A.add t)=some u):=by
  by_cases h:cap=j
  ·refine ⟨⟨g,off,none⟩,by simp [h],fun t u hu=>?_⟩
   have:=hget t u hu
   omega
  ·refine ⟨⟨g,off + j * 16,none⟩,by simp [h],fun t u hu=>?_⟩
   have:=hget t u hu
   rw [bo]
   show w.cell? _=_
   rw [hj]
   simp [World.cell?,hg,this.2]
 have s1:Hid (news.length=(n - j) * i0.size):=by rw [hz1];exact hlen
 have s2:Hid (∀ u∈news,u.oneCell' = true):=by
  intro u hu
  obtain ⟨t,ht'⟩:=List.getElem?_of_mem hu
  have:=hget t u ht'
  exact h1 _ u (by omega) (by omega) this.2
 have s3:Hid (off + i * i0.size + news.length≤cur.size):=by rw [hz1,hlen];show _≤_;omega
 have hgd:w.drew.heap[g]?=some (.cells cur e0 (0,0)):=hg
 obtain ⟨c1,hc1⟩ : ∃ c1,c1=(cur.toList.take (off + i * i0.size) ++ news ++ cur.toList.drop (off + i * i0.size + news.length)).toArray:=⟨_,rfl⟩
 obtain ⟨W1,hW1⟩ : ∃ W1,W1=w.drew.setRow g c1:=⟨_,rfl⟩
 have hcs:c1.size=cur.size:=by rw [hc1];simp [hlen,hz1];omega
 have hgW:W1.heap[g]?=some (.cells c1 e0 (0,0)):=by rw [hW1];exact cb _ _ _ cur _ hg
 have e1:i + (n - j)=n - 1:=by omega
 have hcl : ∀ ty cc,(Builtin.clear_ #[22] ty #[.slice (some ⟨g,off + (n - 1) * 16,none⟩) 1 cc]).run Tryz.prog W1 = .ok (.tuple #[]) (W1.setRow g (c1.toList.take (off + (n - 1) * 16) ++ zN ++ c1.toList.drop (off + (n - 1) * 16 + zN.length)).toArray) :=
  fun ty cc=>mF W1 _ _ ty _ zN ht hv g (off + (n - 1) * 16) 1 cc (by decide) (by kernel_rfl) (by simp [Value.oneCell']) e0 c1 hgW (by simp;omega)
 have hne : ¬ ((i:Int)=(j:Int)):=by omega
 have hjn:j≤n:=by omega
 have hij:i≤j:=by omega
 have hic:i≤cap:=by omega
 have hjc:j≤cap:=by omega
 have X:Hid (W1=w.drew.setRow g c1):=hW1
 have hW:Hid (W1=w.drew.setRow g (cur.toList.take (off + i * i0.size) ++ news ++ cur.toList.drop (off + i * i0.size + news.length)).toArray):=by unfold Hid;rw [hW1,hc1]
 have hn1:n - (n - 1)=1:=by omega
 have hn2:n - 1≤n:=by omega
 have hn3:n - 1≤cap:=by omega
 have hn4 : ¬ (cap=n - 1):=by omega
 have s4:Hid (i + (n - j)≤cap):=by unfold Hid;omega
 have s5:Hid (j=i + 1):=hj
 have s6:Hid (c1=(cur.toList.take (off + i * i0.size) ++ news ++ cur.toList.drop (off + i * i0.size + news.length)).toArray):=hc1
 have s7:Hid (news=(cur.toList.drop (off + (i + 1) * 16)).take ((n - 1 - i) * 16)):=hnews
 clear hget hlen hW1 hj hc1 hnews
 go_enter Tryz.func117,Tryz.ntmps117
 go_wp2_with fail
 go_region_law (refine lH rfl (.tmp 22) (.tmp 25) 22 rfl 50 e0 i0 ht hi0 g off i cap cur hgd (by simp [Go.Act.eval,Go.Act.put]) A (n - j) (cap - j) news (by simp [Go.Act.eval,Go.Act.put]) s1.out hsrc.out s2.out s4.out s3.out ?_;rw [← hW.out])
 go_wp2
 go_ret
 refine ⟨rfl,?_⟩
 have e5:=s5.out
 show W1.setRow g _=_
 rw [X.out,setRow_setRow]
 congr 2
 have e6:=s6.out
 have e7:=s7.out
 have hnl:news.length=(n - 1 - i) * 16:=by have:=s1.out;rw [hz1] at this;omega
 rw [hz1,hnl] at e6
 have hal:(cur.toList.take (off + i * 16) ++ news).length=off + (n - 1) * 16:=by simp [hnl];omega
 have hdl:cur.toList.drop (off + i * 16 + (n - 1 - i) * 16)=cur.toList.drop (off + (n - 1) * 16):=by congr 1;omega
 have ht1:c1.toList.take (off + (n - 1) * 16)=cur.toList.take (off + i * 16) ++ news:=by rw [e6];exact List.take_left' hal
 have ht2:c1.toList.drop (off + (n - 1) * 16 + 16)=cur.toList.drop (off + n * 16):=by
  rw [← List.drop_drop,e6,List.drop_left' hal,hdl,List.drop_drop];congr 1;omega
 rw [ht1,ht2,delC, ← e7]
 simp
theorem u7 (zs cur:List Value) (off sz i n k:Nat) (hz:zs.length=sz) (hi:i < n) (hf:off + n * sz≤cur.length) :
 (delC zs cur off sz i n)[k]?=if k < off + i * sz then cur[k]? else if k < off + (n - 1) * sz then cur[k + sz]? else if k < off + n * sz then zs[k - (off + (n - 1) * sz)]? else cur[k]?:=by
 have m1:(i + 1) * sz=i * sz + sz:=by rw [Nat.add_mul,Nat.one_mul]
 have m2:(n - 1) * sz=i * sz + (n - 1 - i) * sz:=by rw [← Nat.add_mul];congr 1;omega
 have m3:n * sz=(n - 1) * sz + sz:=by rw [← Nat.succ_mul];congr 1;omega
 have l1:(cur.take (off + i * sz)).length=off + i * sz:=by simp;omega
 have l2:((cur.drop (off + (i + 1) * sz)).take ((n - 1 - i) * sz)).length=(n - 1 - i) * sz:=by simp;omega
 unfold delC
 by_cases h1:k < off + i * sz
 ·rw [if_pos h1,List.append_assoc,List.append_assoc,List.getElem?_append_left (by omega),List.getElem?_take,if_pos h1]
 ·rw [if_neg h1,List.append_assoc,List.append_assoc,List.getElem?_append_right (by omega),l1]
  by_cases h2:k < off + (n - 1) * sz
  ·rw [if_pos h2,List.getElem?_append_left (by omega),List.getElem?_take,if_pos (by omega),List.getElem?_drop]
   congr 1;omega
  ·rw [if_neg h2,List.getElem?_append_right (by omega),l2]
   by_cases h3:k < off + n * sz
   ·rw [if_pos h3,List.getElem?_append_left (by omega)]
    congr 1;omega
   ·rw [if_neg h3,List.getElem?_append_right (by omega),List.getElem?_drop]
    congr 1;omega
abbrev zR:List AV:=zN.map .val
theorem tV (rows:List (List AV)) (tl:List Own) (n i:Nat) (hn:n=rows.length) (hi:i < n) (hone : ∀ row∈rows, ∀ c∈row,c.one=true) :
 ACallL Tryz.prog 117 [.sl 1 0 n,.val (.int .i64 i),.val (.int .i64 ((i:Int) + 1))] (.perm :: .live ⟨16,50,rows⟩::tl) (.sl 1 0 (n - 1)) (.perm :: .live ⟨16,50,rows.eraseIdx i ++ [zR]⟩::tl):=by
 refine ⟨fun a w=>Tryz.call117 a w,fun m w vs rel hl=>?_⟩
 obtain ⟨v0,v1,v2,rfl⟩ : ∃ v0 v1 v2,vs = #[v0,v1,v2]:=by
  obtain ⟨vs⟩:=vs
  match vs,hl.1 with
  | [a,b,c],_=>exact ⟨a,b,c,rfl⟩
 have hR:=hl.2 0 _ v0 rfl rfl
 have e1:=(hl.2 1 _ v1 rfl rfl).val_inv
 have e2:=(hl.2 2 _ v2 rfl rfl).val_inv
 subst e1 e2
 have hk:ofL (.perm :: .live ⟨16,50,rows⟩::tl) 1 = .live ⟨16,50,rows⟩:=rfl
 obtain ⟨cur,hg,hfit,hrows,hcells⟩:=rel.own 1 _ hk
 dsimp only at hfit hrows hcells hg
 cases hR with
 | slD _ _ _ _ hd _=>rw [hk] at hd;cases hd
 | sl _ _ _ k' hb off cap hn' hc hm ho hz =>
   rw [hk] at hb;cases hb
   have hoff:=ho (by omega)
   simp only [Nat.zero_mul,Nat.add_zero] at hoff
   have hat : ∀ q:Nat,(m.pl 1).2≤q→q < (m.pl 1).2 + n * 16 → ∃ (a b:Nat) (row:List AV) (c:AV),q=(m.pl 1).2 + a * 16 + b∧a < n∧b < 16∧rows[a]?=some row∧row[b]?=some c:=fun q h1 h2=>by
    have ha:(q - (m.pl 1).2) / 16 < rows.length:=by omega
    have hr:=hrows _ (List.getElem_mem ha)
    exact ⟨(q - (m.pl 1).2) / 16,(q - (m.pl 1).2) % 16,_,_,by omega,by omega,by omega,List.getElem?_eq_getElem ha,List.getElem?_eq_getElem (by rw [hr];omega)⟩
   have h1c : ∀ (q:Nat) v,(m.pl 1).2≤q→q < (m.pl 1).2 + n * 16→cur[q]?=some v→v.oneCell' = true:=fun q v h1 h2 h3=>by
    obtain ⟨a,b,row,c,rfl,_,_,hr,hc⟩:=hat q h1 h2
    obtain ⟨v', g1,g2⟩:=hcells a b row c hr hc
    rw [h3] at g1;cases g1
    exact g2.one (hone row (List.mem_of_getElem? hr) c (List.mem_of_getElem? hc))
   subst hoff
   have hm' : cap≤9223372036854775807:=hm
   have hD:=uz (m.pl 1).1 (m.pl 1).2 n cap i (i + 1) cur _ w hg rfl hi hc hm' (by omega) h1c
   rw [show ((i + 1:Nat):Int)=(i:Int) + 1 by omega] at hD
   refine hD.mono fun e w' ⟨he,hw⟩=>?_
   have hsz:(delC zN cur.toList (m.pl 1).2 16 i n).length=cur.size:=by
    have l2:((cur.toList.drop ((m.pl 1).2 + (i + 1) * 16)).take ((n - 1 - i) * 16)).length=(n - 1 - i) * 16:=by simp;omega
    simp only [delC,List.length_append,l2]
    simp
    omega
   have hel:(rows.eraseIdx i).length=n - 1:=by rw [List.length_eraseIdx,if_pos (by omega),hn]
   have key:=rel.write (w' := w') hk cur (delC zN cur.toList (m.pl 1).2 16 i n).toArray hg (rows.eraseIdx i ++ [zR]) (by rw [hw];exact cb _ _ _ cur _ hg) (by simpa using hsz) (by rw [hw];simp)
    (fun g hne=>by rw [hw];exact setRow_other _ _ _ _ hne) (by rw [hw];rfl) (by rw [hw];rfl) (by rw [hw];rfl) (by simp [hel];omega) (by simp [hel];omega)
    (fun row hr=>by
     rcases List.mem_append.1 hr with h|h
     ·exact hrows row (List.mem_of_mem_eraseIdx h)
     ·rw [List.mem_singleton.1 h];rfl)
    (fun a b row c h1 h2=>by
     have hb16:b < 16:=by
      have hm3:row.length=16:=by
       rcases List.mem_append.1 (List.mem_of_getElem? h1) with h|h
       ·exact hrows row (List.mem_of_mem_eraseIdx h)
       ·rw [List.mem_singleton.1 h];rfl
      have:=(List.getElem?_eq_some_iff.1 h2).1
      omega
     dsimp only
     rw [List.getElem?_toArray,u7 zN cur.toList _ 16 i n _ rfl hi (by simp;omega)]
     by_cases ha:a < n - 1
     ·rw [List.getElem?_append_left (by omega),List.getElem?_eraseIdx] at h1
      by_cases hai:a < i
      ·rw [if_pos hai] at h1
       rw [if_pos (by omega)]
       simpa using hcells a b row c h1 h2
      ·rw [if_neg hai] at h1
       rw [if_neg (by omega),if_pos (by omega),show (m.pl 1).2 + a * 16 + b + 16=(m.pl 1).2 + (a + 1) * 16 + b by omega]
       simpa using hcells (a + 1) b row c h1 h2
     ·have hlt:=(List.getElem?_eq_some_iff.1 h1).1
      simp only [List.length_append,List.length_singleton,hel] at hlt
      have ha2:a=n - 1:=by omega
      subst ha2
      rw [List.getElem?_append_right (by omega),hel,Nat.sub_self] at h1
      cases h1
      rw [if_neg (by omega),if_neg (by omega),if_pos (by omega),show (m.pl 1).2 + (n - 1) * 16 + b - ((m.pl 1).2 + (n - 1) * 16)=b by omega]
      rw [List.getElem?_map] at h2
      cases hz:zN[b]? with
      | none=>rw [hz] at h2;cases h2
      | some v=>rw [hz] at h2;cases h2;exact ⟨v,rfl,.val _⟩)
   have hup:(ofL (.perm :: .live ⟨16,50,rows⟩::tl)).upd 1 (.live { (⟨16,50,rows⟩:Blk) with rows:=rows.eraseIdx i ++ [zR] })=ofL (.perm :: .live ⟨16,50,rows.eraseIdx i ++ [zR]⟩::tl):=by
    funext x;rcases x with _|_|x<;>rfl
   rw [hup] at key
   refine ⟨_,m,he,key.1,key.2,?_⟩
   have:=R.sl (m:=m) (h:=ofL (.perm :: .live ⟨16,50,rows.eraseIdx i ++ [zR]⟩::tl)) (w:=w') 1 0 (n - 1) ⟨16,50,rows.eraseIdx i ++ [zR]⟩ rfl (m.pl 1).2 cap (by simp [hel]) (by omega) hm (fun _=>by simp)
    (fun c2 e2 f2 hc2 hcap=>by
     rw [hw,cb w.drew _ _ cur _ hg] at hc2
     cases hc2
     have:=hz cur _ _ hg hcap
     simpa [hsz] using this)
   exact this
theorem ud (r:Nat) (l:List Cn):(l.map (cnR r)).all (fun r=>r.all AV.one)=true:=by simp [AV.one,Value.oneCell']
theorem iv (o p d:Nat) (l:List Cn):(l.map (cnG o p d)).all (fun r=>r.all AV.one)=true:=by simp [AV.one,Value.oneCell']
section
variable {L I F:Prs} {h:Hp} {o p d o' p' d' r:Nat}
theorem fb (h0:I.has o o' = true) (h1:I.has p p' = true) (h2:I.has d d' = true) (c:Cn):Cells (qOf L I F) h (cnG o p d c) (cnG o' p' d' c) :=
 .cons (.val _) (.cons (.val _) (.cons (.val _) (.cons (.val _) (.cons (.val _) (.cons (.val _) (.cons (.val _) (.cons (.val _) (.cons (Ren.gg h0 c.out) (.cons (.val _) (.cons (Ren.pgl h1 h2 c.parts) (.cons (.val _) (.cons (.val _) (.cons (.val _) (.cons (.val _) (.cons (.val _) .nil)))))))))))))))
theorem xV (h0:I.has o r=true) (h1:I.has p r=true) (h2:I.has d r=true) (c:Cn):Cells (qOf L I F) h (cnG o p d c) (cnR r c) :=
 .cons (.val _) (.cons (.val _) (.cons (.val _) (.cons (.val _) (.cons (.val _) (.cons (.val _) (.cons (.val _) (.cons (.val _) (.cons (Ren.g2 h0 c.out) (.cons (.val _) (.cons (Ren.pg2 h1 h2 c.parts) (.cons (.val _) (.cons (.val _) (.cons (.val _) (.cons (.val _) (.cons (.val _) .nil)))))))))))))))
theorem lu {r' : Nat} (h0:I.has r r' = true) (c:Cn):Cells (qOf L I F) h (cnR r c) (cnR r' c) :=
 .cons (.val _) (.cons (.val _) (.cons (.val _) (.cons (.val _) (.cons (.val _) (.cons (.val _) (.cons (.val _) (.cons (.val _) (.cons (Ren.ll h0 c.out) (.cons (.val _) (.cons (Ren.pll h0 h0 c.parts) (.cons (.val _) (.cons (.val _) (.cons (.val _) (.cons (.val _) (.cons (.val _) .nil)))))))))))))))
theorem aK (h0:I.has o o' = true) (h1:I.has p p' = true) (h2:I.has d d' = true) (l:List Cn):RowsRen (qOf L I F) h (l.map (cnG o p d)) (l.map (cnG o' p' d')):=RowsRen.mapF l _ _ fun c _=>fb h0 h1 h2 c
theorem xx (h0:I.has o r=true) (h1:I.has p r=true) (h2:I.has d r=true) (l:List Cn):RowsRen (qOf L I F) h (l.map (cnG o p d)) (l.map (cnR r)):=RowsRen.mapF l _ _ fun c _=>xV h0 h1 h2 c
theorem m5 {r' : Nat} (h0:I.has r r' = true) (l:List Cn):RowsRen (qOf L I F) h (l.map (cnR r)) (l.map (cnR r')):=RowsRen.mapF l _ _ fun c _=>lu h0 c
theorem bl {n:Nat} (h0:I.has o r=true) (h1:I.has p r=true) (h2:I.has d r=true) (l:List Cn) (hn:n=l.length):RowsRen (qOf L I F) h (((l.map (cnG o p d)).drop 0).take n) (l.map (cnR r)) :=
 RowsRen.cast (by rw [List.drop_zero,List.take_of_length_le (by simp [hn])]) (xx h0 h1 h2 l)
theorem Ren.cgs {b b' : Nat} (hb:I.has b b' = true) (h0:I.has o o' = true) (h1:I.has p p' = true) (h2:I.has d d' = true) (l:List Cn):Ren (qOf L I F) h (.glist b 16 (l.map (cnG o p d))) (.glist b' 16 (l.map (cnG o' p' d'))):=by
 obtain ⟨a,b,c⟩:=aK (L:=L) (I:=I) (F:=F) (h:=h) h0 h1 h2 l
 exact .glist _ _ _ _ _ ((Prs.has_iff I _ _).1 hb) a b c
theorem vo {b b' : Nat} (n:Int) (hb:I.has b b' = true) (h0:I.has o o' = true) (h1:I.has p p' = true) (h2:I.has d d' = true) (l:List Cn) :
 RowsRen (qOf L I F) h [[.glist b 16 (l.map (cnG o p d)),.val (.int .i64 n)]] [[.glist b' 16 (l.map (cnG o' p' d')),.val (.int .i64 n)]]:=RowsRen.one (.cons (Ren.cgs hb h0 h1 h2 l) (.cons (.val _) .nil))
theorem p9 {b b' : Nat} (n:Int) (hb:I.has b b' = true):RowsRen (qOf L I F) h [[.glist b 16 [],.val (.int .i64 n)]] [[.glist b' 16 [],.val (.int .i64 n)]] :=
 RowsRen.one (.cons (.glist _ _ _ _ _ ((Prs.has_iff I _ _).1 hb) rfl (by simp) (by simp)) (.cons (.val _) .nil))
theorem vf {b b' : Nat} (n:Int) (hb:I.has b b' = true) (h0:I.has o o' = true) (h1:I.has p p' = true) (h2:I.has d d' = true) (c:Cn) :
 RowsRen (qOf L I F) h [[.glist b 16 [cnG o p d c],.val (.int .i64 n)]] [[.glist b' 16 [cnG o' p' d' c],.val (.int .i64 n)]]:=vo n hb h0 h1 h2 [c]
theorem wx {o2 p2 d2:Nat} (h0:I.has o o' = true) (h1:I.has p p' = true) (h2:I.has d d' = true) (g0:I.has o2 o' = true) (g1:I.has p2 p' = true) (g2:I.has d2 d' = true) (l:List Cn) (i:Nat) (c:Cn) :
 RowsRen (qOf L I F) h ((l.map (cnG o p d)).set i (cnG o2 p2 d2 c)) ((l.set i c).map (cnG o' p' d')):=by
 by_cases hi:i < l.length
 ·have e1:(l.map (cnG o p d)).set i (cnG o2 p2 d2 c)=(l.take i).map (cnG o p d) ++ ([cnG o2 p2 d2 c] ++ (l.drop (i + 1)).map (cnG o p d)):=by
   rw [List.set_eq_take_append_cons_drop,if_pos (by simpa using hi)]
   simp [List.map_take,List.map_drop]
  have e2:(l.set i c).map (cnG o' p' d')=(l.take i).map (cnG o' p' d') ++ ([cnG o' p' d' c] ++ (l.drop (i + 1)).map (cnG o' p' d')):=by
   rw [List.set_eq_take_append_cons_drop,if_pos hi]
   simp
  rw [e1,e2]
  exact RowsRen.app (aK h0 h1 h2 _) (RowsRen.app (RowsRen.one (fb g0 g1 g2 c)) (aK h0 h1 h2 _))
 ·rw [List.set_eq_of_length_le (by simpa using hi),List.set_eq_of_length_le (by omega)]
  exact aK h0 h1 h2 l
theorem hJ {o2 p2 d2 o3 p3 d3:Nat} (h0:I.has o o' = true) (h1:I.has p p' = true) (h2:I.has d d' = true) (g0:I.has o2 o3=true) (g1:I.has p2 p3=true) (g2:I.has d2 d3=true) (l:List Cn) (i:Nat) (c:Cn) :
 RowsRen (qOf L I F) h ((l.map (cnG o p d)).set i (cnG o2 p2 d2 c)) ((l.map (cnG o' p' d')).set i (cnG o3 p3 d3 c)):=by
 by_cases hi:i < l.length
 ·have e1 : ∀ o p d o2 p2 d2,(l.map (cnG o p d)).set i (cnG o2 p2 d2 c)=(l.take i).map (cnG o p d) ++ ([cnG o2 p2 d2 c] ++ (l.drop (i + 1)).map (cnG o p d)):=fun o p d o2 p2 d2=>by
   rw [List.set_eq_take_append_cons_drop,if_pos (by simpa using hi)]
   simp [List.map_take,List.map_drop]
  rw [e1,e1]
  exact RowsRen.app (aK h0 h1 h2 _) (RowsRen.app (RowsRen.one (fb g0 g1 g2 c)) (aK h0 h1 h2 _))
 ·rw [List.set_eq_of_length_le (by simpa using hi),List.set_eq_of_length_le (by simpa using hi)]
  exact aK h0 h1 h2 l
end
theorem uC (c:Cn) (l:List Cn) (hl:(c::l).length≤1000):ACallL Tryz.prog 112 [.list 0 16 ((c::l).map (cnR 0))] [.perm] (.sl 1 0 (l.length + 1)) [.perm,.live ⟨16,50,(c::l).map (cnR 0)⟩]:=by
 refine ACallL.of_ev af Tryz.func112 rfl (fun a w=>Tryz.call112 a w) (congrArg Array.toList Tryz.results112) Tryz.ntmps112 fun B hB=>?_
 ((conv=>whnf);(repeat' ((first|refine gT ?_|(with_reducible refine ab (fun _=>?_) (fun _=>?_))|(refine qOpen.nilF rfl rfl rfl rfl rfl ?_)|(refine ak (apS (nb:=160) rfl rfl rfl rfl rfl rfl rfl rfl rfl rfl (by decide) (ud 0 (_::_)) ⟨rfl,rfl,rfl⟩ rfl (by simp at hl ⊢; omega)) ?_))<;>(conv=>whnf))))
 (refine qcv hB [(2,1)] [(0,0)] [] ?_;repeat' (with_reducible first|exact trivial|refine And.intro ?_ ?_))
 all_goals first|rfl|exact m5 rfl _|(simp;done)|trace_state
theorem qK:ACallL Tryz.prog 112 [.list 0 16 []] [.perm] (.glist 1 16 []) [.perm,.uniq]:=by
 refine ACallL.of_calls (fun a w=>Tryz.call112 a w) fun m w vs rel hl=>?_
 obtain ⟨v,rfl⟩ : ∃ v,vs = #[v]:=by
  obtain ⟨vs⟩:=vs
  match vs,hl.1 with
  | [v],_=>exact ⟨v,rfl⟩
 have hR:=hl.2 0 _ v rfl rfl
 clear hl
 have he:=fun (w:World) (a:Option Addr) (n c:Nat)=>Lib.run_eql_slice_nil (P:=Tryz.prog) w 22 50 a n c 0 0 Tryz.underlying22
 rcases R.nil_inv (h:=ofL [.perm]) (r:=0) trivial hR with rfl|⟨a,cap,rfl⟩
 ·clear hR rel
  go_enter Tryz.func112,Tryz.ntmps112
  go_wp2
  go_ret
  exact ⟨_,rfl,(by repeat (first|(with_reducible exact Below.refl _ _)|(with_reducible assumption)|((with_reducible refine Below.alloc ?_ ?_ _);rotate_left;focus (first|(simp;done)|(simp;omega)|omega))|((with_reducible refine Below.setCell ?_ ?_ _);rotate_left;focus (first|(simp;done)|(simp;omega)|omega))|(with_reducible refine Below.drew ?_)|((with_reducible apply Below.then);rotate_left;(with_reducible assumption)))),fun m' => .gnil _ _⟩
 ·clear hR rel
  go_enter Tryz.func112,Tryz.ntmps112
  go_wp2
  go_ret
  exact ⟨_,rfl,(by repeat (first|(with_reducible exact Below.refl _ _)|(with_reducible assumption)|((with_reducible refine Below.alloc ?_ ?_ _);rotate_left;focus (first|(simp;done)|(simp;omega)|omega))|((with_reducible refine Below.setCell ?_ ?_ _);rotate_left;focus (first|(simp;done)|(simp;omega)|omega))|(with_reducible refine Below.drew ?_)|((with_reducible apply Below.then);rotate_left;(with_reducible assumption)))),fun m' => .gemp _ _ _ trivial⟩
theorem tj {l:List Cn} {k i:Nat} {c:Cn} (h:l[k]?=some c) (o p d o2 p2 d2:Nat) (hi:i=k):((l.take k).map (cnG o p d) ++ (l.drop k).map (cnR 0)).set i (cnG o2 p2 d2 c)=(l.take k).map (cnG o p d) ++ ([cnG o2 p2 d2 c] ++ (l.drop (k + 1)).map (cnR 0)):=by
 subst hi
 have hk:i < l.length:=(List.getElem?_eq_some_iff.1 h).1
 rw [bI h,List.map_cons,List.set_append_right _ _ (by simp;omega)]
 simp [Nat.min_eq_left (Nat.le_of_lt hk)]
theorem vB {l:List Cn} {k:Nat} {c:Cn} (h:l[k]?=some c) (o p d:Nat):((l.take k).map (cnG o p d) ++ (l.drop k).map (cnR 0))[0 + (k:Int).toNat]?=some (cnR 0 c):=by
 have hk:k < l.length:=(List.getElem?_eq_some_iff.1 h).1
 simp [List.getElem?_append,Nat.min_eq_left (Nat.le_of_lt hk),h]
theorem jU (n:Int):ACallL Tryz.prog 71 [.agg (hoR ⟨[],n⟩)] [.perm] (.agg [.glist 1 16 [],.val (.int .i64 n)]) [.perm,.uniq]:=by
 dsimp only [hoR,List.map_nil]
 refine ACallL.of_ev af Tryz.func71 rfl (fun a w=>Tryz.call71 a w) (congrArg Array.toList Tryz.results71) Tryz.ntmps71 fun B hB=>?_
 ((conv=>whnf);(repeat' ((first|refine gT ?_|(with_reducible refine ab (fun _=>?_) (fun _=>?_)))<;>(conv=>whnf))))
 ((with_reducible refine qcf (fun r => .glist r 16 []) (qK) [(0,0)] [] ?_);refine sT ?_)
 ((conv=>whnf);(repeat' ((first|refine gT ?_|(with_reducible refine ab (fun _=>?_) (fun _=>?_))|(refine qAW.unroll af 1 ?_))<;>(conv=>whnf))))
 all_goals (refine qcv hB [] [(0,0),(3,1)] [] ?_;repeat' (with_reducible first|exact trivial|refine And.intro ?_ ?_))
theorem fk (l:List Cn) (n:Int) (h0:l≠[]) (hl:l.length≤1000) (hc : ∀ c∈l,aA c):ACallL Tryz.prog 71 [.agg (hoR ⟨l,n⟩)] [.perm] (.agg [.sl 1 0 l.length,.val (.int .i64 n)])
 [.perm,.live ⟨16,50,l.map (cnG 2 3 4)⟩,.uniq,.uniq,.uniq]:=by
 dsimp only [hoR]
 obtain ⟨c0,l0,hl0⟩ : ∃ c0 l0,l=c0::l0:=by
  cases l with
  | nil=>exact absurd rfl h0
  | cons a b=>exact ⟨a,b,rfl⟩
 have hC:=uC c0 l0 (by rw [← hl0];exact hl)
 have hn:l0.length + 1=l.length:=by rw [hl0];rfl
 rw [← hl0,hn] at hC
 clear hl0 h0 hn
 refine ACallL.of_ev af Tryz.func71 rfl (fun a w=>Tryz.call71 a w) (congrArg Array.toList Tryz.results71) Tryz.ntmps71 fun B hB=>?_
 ((conv=>whnf);(repeat' ((first|refine gT ?_|(with_reducible refine ab (fun _=>?_) (fun _=>?_)))<;>(conv=>whnf))))
 ((with_reducible refine qco (hC) [] [(0,0)] [] [(1,3)] [(3,.live ⟨16,50,l.map (cnR 0)⟩)] (.sl 3 0 l.length) ?_);refine sT ?_)
 ((conv=>whnf);(repeat' ((first|refine gT ?_|(with_reducible refine ab (fun _=>?_) (fun _=>?_)))<;>(conv=>whnf))))
 refine qAW.loopE af (X:=Nat) (fun k=>ap 26 [(1,.ptr 1 0 0),(2,.ptr 2 0 0),(10,.val (.int .i64 l.length)),(11,.val (.int .i64 k))])
  (fun k=>[.perm,.live ⟨2,24,[[.sl 3 0 l.length,.val (.int .i64 n)]]⟩,.live ⟨2,24,[[.val (.slice none 0 0),.val (.int .i64 0)]]⟩,.live ⟨16,50,(l.take k).map (cnG 4 5 6) ++ (l.drop k).map (cnR 0)⟩,.uniq,.uniq,.uniq])
  (fun k=>k≤l.length) (fun k=>l.length - k) 0 (Nat.zero_le _) ?_ ?_
 ·(refine qcv hB [(1,1),(2,2),(3,3)] [(0,0)] [] ?_;repeat' (with_reducible first|exact trivial|refine And.intro ?_ ?_))
  all_goals first|rfl|exact m5 rfl l|(exact ao)
 ·intro E k hk hE
  by_cases hlt:k < l.length
  ·obtain ⟨c,hck⟩ : ∃ p,l[k]?=some p:=⟨_,List.getElem?_eq_getElem hlt⟩
   have hrow:=vB hck 4 5 6
   have w:=IntWalk.i64_in (k + 1) (by omega)
   have cO:=dB c (hc c (List.mem_of_getElem? hck))
   subst hE
   ((conv=>whnf);(repeat' ((first|refine gT ?_|((with_reducible refine ai ?_ ?_);focus (simp [hlt];done))|((with_reducible refine aj ?_ ?_);focus (simp [hlt];done))|(with_reducible refine ab (fun _=>?_) (fun _=>?_))|(refine ak (idxS rfl rfl rfl rfl rfl rfl rfl rfl (by omega)) ?_)|(refine ak (ldR rfl rfl rfl rfl rfl hrow rfl) ?_)|(((with_reducible refine qco (cO) [] [(0,0)] [] [(1,7),(2,8),(3,9)] [(7,.uniq),(8,.uniq),(9,.uniq)] (.agg (cnG 7 8 9 c)) ?_);refine sT ?_))|(refine ak (stR rfl rfl rfl rfl hrow rfl rfl (Nat.le_of_ble_eq_true rfl)) ?_))<;>(conv=>whnf))))
   refine ⟨k + 1,by omega,by omega,?_⟩
   (refine qcv hB [(1,1),(2,2),(3,3)] [(0,0),(4,4),(5,5),(6,6),(7,4),(8,5),(9,6)] [] ?_;repeat' (with_reducible first|exact trivial|refine And.intro ?_ ?_))
   all_goals first|rfl|(simp [w];done)|(exact ao)|skip
   refine RowsRen.cast (tj (i:=0 + (k:Int).toNat) hck 4 5 6 7 8 9 (by simp)) ?_
   refine RowsRen.castR (b:=(l.take k).map (cnG 4 5 6) ++ ([cnG 4 5 6 c] ++ (l.drop (k + 1)).map (cnR 0))) (by rw [bj hck,List.map_append,List.append_assoc];rfl) ?_
   refine RowsRen.app (aK rfl rfl rfl _) (RowsRen.app (RowsRen.one (fb rfl rfl rfl c)) (m5 rfl _))
  ·subst hE
   ((conv=>whnf);(repeat' ((first|refine gT ?_|((with_reducible refine ai ?_ ?_);focus (simp [hlt];done))|((with_reducible refine aj ?_ ?_);focus (simp [hlt];done))|(with_reducible refine ab (fun _=>?_) (fun _=>?_)))<;>(conv=>whnf))))
   have:k=l.length:=by omega
   subst this
   (refine qcv hB [(3,1)] [(0,0),(4,2),(5,3),(6,4)] [] ?_;repeat' (with_reducible first|exact trivial|refine And.intro ?_ ?_))
   all_goals first|rfl|(refine RowsRen.cast ?_ (aK (o:=4) (p:=5) (d:=6) rfl rfl rfl l);simp;done)
theorem wT {p q:Prop} (k:q) (h:Hold q→p:=by first|(intro hQ;refine And.intro ?_ ?_;(focus rfl);(conv=>whnf);(repeat (refine And.intro ?_ ?_;(focus (first|exact bA|(exact RowsRen.app (aK rfl rfl rfl _) gU)));(conv=>whnf)));(fail_if_success (with_reducible first|refine And.intro (bz ?_) ?_|refine And.intro (bD ?_) ?_));exact hQ.out)|fail):p:=h ⟨k⟩
abbrev hoB (b n:Nat) (count:Int):Own := .live ⟨2,24,[[.sl b 0 n,.val (.int .i64 count)]]⟩
abbrev cnB' (rows:List (List AV)):Own := .live ⟨16,50,rows⟩
theorem ut (o p d:Nat) (l:List Cn) : ∀ row∈l.map (cnG o p d), ∀ c∈row,c.one=true:=fun row hr c hc=>List.all_eq_true.1 (List.all_eq_true.1 (iv o p d l) row hr) c hc
theorem gU {L I F:Prs} {h:Hp} : RowsRen (qOf L I F) h [zR] [zR]:=RowsRen.one (.cons (.val _) (.cons (.val _) (.cons (.val _) (.cons (.val _) (.cons (.val _) (.cons (.val _) (.cons (.val _) (.cons (.val _) (.cons (.val _) (.cons (.val _) (.cons (.val _) (.cons (.val _) (.cons (.val _) (.cons (.val _) (.cons (.val _) (.cons (.val _) .nil))))))))))))))))
theorem rB (f:Cn→List AV) (l:List Cn) (i:Nat):(l.map f).eraseIdx i=(l.eraseIdx i).map f:=by
 refine List.ext_getElem? fun j=>?_
 rw [List.getElem?_eraseIdx,List.getElem?_map,List.getElem?_map,List.getElem?_map,List.getElem?_eraseIdx]
 split<;>rfl
theorem qg (l:List Cn) (count:Int) (i:Nat) (c:Cn) (hi:i < l.length) (hs:(c.st == 0)=false) :
 ACallL Tryz.prog 76 [.ptr 1 0 0,.val (.int .i64 i),.agg (cnG 3 4 5 c)] [.perm,hoB 2 l.length count,cnB' (l.map (cnG 6 7 8)),.perm,.perm,.perm,.perm,.perm,.perm] (.tup [])
  [.perm,hoB 2 l.length count,cnB' ((l.map (cnG 6 7 8)).set i (cnG 3 4 5 c)),.perm,.perm,.perm,.perm,.perm,.perm]:=by
 obtain ⟨c1,hc1⟩ : ∃ p,l[i]?=some p:=⟨_,List.getElem?_eq_getElem hi⟩
 have hrow:(l.map (cnG 6 7 8))[0 + (i:Int).toNat]?=some (cnG 6 7 8 c1):=by simp [hc1]
 have e1:0 + (i:Int).toNat=i:=by omega
 rw [e1] at hrow
 refine ACallL.of_ev af Tryz.func76 rfl (fun a w=>Tryz.call76 a w) (congrArg Array.toList Tryz.results76) Tryz.ntmps76 fun B hB=>?_
 ((conv=>whnf);(repeat' ((first|refine gT ?_|((with_reducible refine ai ?_ ?_);focus (simp;done))|((with_reducible refine aj ?_ ?_);focus (simp;done))|(with_reducible refine ab (fun _=>?_) (fun _=>?_))|(refine ak (idxS rfl rfl rfl rfl rfl rfl rfl rfl (by omega)) ?_)|(refine ak (stR' rfl rfl rfl rfl (by with_reducible exact e1) hrow rfl rfl (Nat.le_of_ble_eq_true rfl)) ?_))<;>(conv=>whnf))))
 (refine qcv hB [(1,1),(2,2)] [(0,0),(3,3),(4,4),(5,5),(6,6),(7,7),(8,8)] [] ?_;repeat' (with_reducible first|exact trivial|refine And.intro ?_ ?_))
 all_goals first|rfl|(exact ao)|(refine RowsRen.cast (b:=(l.map (cnG 6 7 8)).set i (cnG 3 4 5 c)) rfl ?_;exact hJ rfl rfl rfl rfl rfl rfl l i c)|trace_state
theorem na (l:List Cn) (count:Int) (i:Nat) (c:Cn) (hi:i < l.length) (hn:l.length≤100000) (hs:(c.st == 0)=true) :
 ACallL Tryz.prog 76 [.ptr 1 0 0,.val (.int .i64 i),.agg (cnG 3 4 5 c)] [.perm,hoB 2 l.length count,cnB' (l.map (cnG 6 7 8)),.perm,.perm,.perm,.perm,.perm,.perm] (.tup [])
  [.perm,hoB 2 (l.length - 1) count,cnB' ((l.eraseIdx i).map (cnG 6 7 8) ++ [zR]),.perm,.perm,.perm,.perm,.perm,.perm]:=by
 have hD:=tV (l.map (cnG 2 3 4)) [.perm,.perm,.perm] l.length i (by simp) hi (ut 2 3 4 l)
 have w:=IntWalk.i64_in ((i:Nat) + 1) (by omega)
 rw [← w,rB] at hD
 refine ACallL.of_ev af Tryz.func76 rfl (fun a w=>Tryz.call76 a w) (congrArg Array.toList Tryz.results76) Tryz.ntmps76 fun B hB=>?_
 ((conv=>whnf);(repeat' ((first|refine gT ?_|((with_reducible refine ai ?_ ?_);focus (simp;done))|((with_reducible refine aj ?_ ?_);focus (simp;done))|(with_reducible refine ab (fun _=>?_) (fun _=>?_))|(((with_reducible refine qco (hD) [(1,2)] [(0,0),(2,6),(3,7),(4,8)] [] [] [(2,cnB' ((l.eraseIdx i).map (cnG 6 7 8) ++ [zR]))] (.sl 2 0 (l.length - 1)) ?_);refine wT ?_)))<;>(conv=>whnf))))
 (refine qcv hB [(1,1),(2,2)] [(0,0),(3,3),(4,4),(5,5),(6,6),(7,7),(8,8)] [] ?_;repeat' (with_reducible first|exact trivial|refine And.intro ?_ ?_))
 all_goals first|rfl|(exact ao)|exact RowsRen.app (aK rfl rfl rfl _) gU
end Go.Proofs.YtceohcbokbalhaaGreat
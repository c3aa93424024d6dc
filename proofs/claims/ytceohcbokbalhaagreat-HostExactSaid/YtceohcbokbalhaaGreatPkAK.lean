/- Contracts and plain laws, one behind the other: AhHoMw, AhHoM, AhHoT, AhHoU, AhHeW, Arg17, AhTcpFit, AhHeF, AhHoC. Conditions are said at each. -/
import Derived.Test.YtceohcbokbalhaaGreatPkAI
import Derived.Test.YtceohcbokbalhaaGreatAhiMap
import Derived.DeepKeys4
import Derived.Test.YtceohcbokbalhaaGreatPkAF
import Derived.Test.YtceohcbokbalhaaGreatPkAH
import Derived.Test.YtceohcbokbalhaaGreatPkAE
namespace Go.Proofs.YtceohcbokbalhaaGreat
open Go.RowKit
open Go.Maps (Keyed)
set_option linter.unusedVariables false
set_option linter.unusedSimpArgs false
set_option maxRecDepth 100000
set_option maxHeartbeats 4000000
theorem uh:(92:TypeId) < (Tryz.prog).types.size:=of_decide_eq_true (by kernel_rfl)
theorem xQ:laidOutB Tryz.prog=true:=by kernel_rfl
theorem j7:Keyed Tryz.prog 92:=Keyed.of_law (deep_law_laid xQ (m:=3) (by omega) uh (by kernel_rfl) (by kernel_rfl))
def i64T (P:Program) (t:TypeId):Bool:=match P.underlying t with
 | some (.int .i64)=>true
 | _=>false
def vq (P:Program) (t:TypeId):Bool:=match P.underlying t with
 | some (.struct fs)=>(match fs.toList with
   | [f1, f2] => (f1.name != "_") && (f2.name != "_") && f1.offset == 0 && f2.offset == 1 && i64T P f1.type && i64T P f2.type && P.cellsOf f1.type == 1 && P.cellsOf f2.type == 1
   | _=>false)
 | _=>false
theorem pP {P:Program} {t:TypeId} (h:i64T P t=true):P.underlying t=some (.int .i64):=by
 unfold i64T at h
 split at h
 ·assumption
 ·cases h
theorem tz : ∃ f1 f2 : Field, (Tryz.prog).underlying 92 = some (.struct #[f1, f2]) ∧ (f1.name != "_") = true ∧ (f2.name != "_") = true ∧ f1.offset = 0 ∧ f2.offset = 1 ∧ (Tryz.prog).underlying f1.type = some (.int .i64) ∧ (Tryz.prog).underlying f2.type = some (.int .i64) ∧ (Tryz.prog).cellsOf f1.type = 1 ∧ (Tryz.prog).cellsOf f2.type = 1 := by
 have h:vq Tryz.prog 92=true:=by kernel_rfl
 unfold vq at h
 split at h
 ·rename_i fs hfs
  split at h
  ·rename_i f1 f2 hl
   simp only [Bool.and_eq_true,beq_iff_eq] at h
   obtain ⟨⟨⟨⟨⟨⟨⟨h1,h2⟩,h3⟩,h4⟩,h5⟩,h6⟩,h7⟩,h8⟩:=h
   refine ⟨f1,f2,?_,h1,h2,h3,h4,pP h5,pP h6,h7,h8⟩
   rw [hfs, ← hl]
  ·cases h
 ·cases h
theorem uk {x y:Int} (hx:(Lit.int .i64 x).wf=true) (hy:(Lit.int .i64 y).wf=true):keyOf Tryz.prog 92 (.agg #[.int .i64 x,.int .i64 y])=some (.string (keyBytes [.int .i64 x,.int .i64 y])):=by
 obtain ⟨f1,f2,e0,e1,e2,e3,e4,e5,e6,e7,e8⟩:=tz
 have k1:(Tryz.prog).keyType 92=true:=by kernel_rfl
 have k2:(Tryz.prog).cellsOf 92=2:=by kernel_rfl
 have k3 : ∃ n,(Tryz.prog).types.size=n + 1:=⟨(Tryz.prog).types.size - 1,by kernel_rfl⟩
 obtain ⟨n,k3⟩:=k3
 unfold keyOf
 simp only [e0]
 rw [k1]
 have k4:Value.formed Tryz.prog 92 (.agg #[.int .i64 x,.int .i64 y])=true:=by simp [Value.formed,e0,k2]
 rw [k4,k3]
 have l1:(Tryz.prog).keyLits (n + 1) f1.type [.int .i64 x]=some [.int .i64 x]:=by simp [Program.keyLits,e5,hx]
 have l2:(Tryz.prog).keyLits (n + 1) f2.type [.int .i64 y]=some [.int .i64 y]:=by simp [Program.keyLits,e6,hy]
 have l3:(Tryz.prog).keyLits (n + 1 + 1) 92 [.int .i64 x,.int .i64 y]=some [.int .i64 x,.int .i64 y]:=by
  unfold Program.keyLits
  simp only [e0]
  rw [if_pos ⟨by rw [k2];rfl,by simp [e1,e2]⟩]
  simp [e3,e4,e7,e8,l1,l2]
 simp [Value.cells,l3]
def klP (x y:Int):Lit := .string (keyBytes [.int .i64 x,.int .i64 y])
structure InP (c:Cn):Prop where
 ip:0≤c.ip∧c.ip≤4294967295
 pp:0≤c.pp∧c.pp≤65535
theorem lM {c:Cn} (h:InP c):keyOf Tryz.prog 92 (.agg #[.int .i64 c.ip,.int .i64 c.pp])=some (klP c.ip c.pp) :=
 uk (WalkArith.wf_i64 (by have:=h.ip;omega)) (WalkArith.wf_i64 (by have:=h.pp;omega))
theorem wI {c d:Cn} (hc:InP c) (hd:InP d) (h:klP c.ip c.pp=klP d.ip d.pp):c.ip=d.ip∧c.pp=d.pp:=by
 have h1:=lM hc
 rw [h] at h1
 have:=j7.inj h1 (lM hd)
 simp only [Value.agg.injEq] at this
 have h2:=congrArg Array.toList this
 simp at h2
 exact h2
theorem so {c:Cn} (h:InP c):kM Tryz.prog 92 (.agg [.val (.int .i64 c.ip),.val (.int .i64 c.pp)]) (klP c.ip c.pp):=by
 intro m hh w v hR
 cases hR with
 | agg cs vs hl hc =>
   have e:vs = #[.int .i64 c.ip,.int .i64 c.pp]:=by
    have l2:vs.size=2:=by simpa using hl.symm
    have a0:=hc 0 (.val (.int .i64 c.ip)) vs[0] rfl (Array.getElem?_eq_getElem (by omega))
    have a1:=hc 1 (.val (.int .i64 c.pp)) vs[1] rfl (Array.getElem?_eq_getElem (by omega))
    have b0:=a0.val_inv
    have b1:=a1.val_inv
    apply Array.ext (by simpa using l2)
    intro i h1 h2
    match i,h1 with
    | 0,_=>exact b0
    | 1,_=>exact b1
    | n + 2,h1=>omega
   rw [e]
   exact lM h
structure MapI (D:DataW Unit) (done:List Cn):Prop where
 isMap:Go.Maps.IsMap D
 at_ : ∀ c,InP c→D.atKey (klP c.ip c.pp) (.lit (.bool false)) = .lit (.bool (ck c done))
theorem MapI.start:MapI (.map []) []:=⟨⟨[],rfl⟩,fun c _=>rfl⟩
theorem MapI.step {D:DataW Unit} {done:List Cn} (h:MapI D done) {c:Cn} (hc:InP c):MapI (D.put (klP c.ip c.pp) (.lit (.bool true))) (done ++ [c]):=by
 refine ⟨?_,fun d hd=>?_⟩
 ·obtain ⟨es,rfl⟩:=h.isMap
  exact ⟨_,rfl⟩
 ·have e1:ck d (done ++ [c])=(ck d done || (c.ip == d.ip && c.pp == d.pp)):=by unfold ck;simp
  rw [e1]
  by_cases he:klP d.ip d.pp=klP c.ip c.pp
  ·obtain ⟨a,b⟩:=wI hd hc he
   rw [he,Go.Maps.atKey_put_same h.isMap (by unfold klP;trivial), ← a, ← b]
   simp
  ·rw [Go.Maps.atKey_put_other he,h.at_ d hd]
   have:(c.ip == d.ip && c.pp == d.pp)=false:=by
    cases hx:(c.ip == d.ip && c.pp == d.pp) with
    | false=>rfl
    | true =>
      simp only [Bool.and_eq_true,beq_iff_eq] at hx
      rw [hx.1,hx.2] at he
      exact absurd rfl he
   rw [this,Bool.or_false]
def eu (l:List Cn):Nat→Int
 | 0=>0
 | i + 1=>(l.getD i cnZ).link
theorem tK {l:List Cn} {i:Nat} {c:Cn} {count:Int} {b:Bool} (hc:l[i]?=some c) (hgo:bN count (eu l i) (l.take i) (l.drop i)=b) :
 (b=false∧(cnB c=false∨cnB c=true∧((c.st != 0)=false∨(c.st != 0)=true∧(decide (eu l i < c.link)=false∨decide (eu l i < c.link)=true∧(decide (c.link≤count)=false∨decide (c.link≤count)=true∧(c.port == 1883)=false))))) ∨
 (cnB c=true∧(c.st != 0)=true∧decide (eu l i < c.link)=true∧decide (c.link≤count)=true∧(c.port == 1883)=true∧(b=false∧ck c (l.take i)=true∨ck c (l.take i)=false∧bN count (eu l (i + 1)) (l.take (i + 1)) (l.drop (i + 1))=b)):=by
 have e1:eu l (i + 1)=c.link:=by unfold eu;simp [List.getD,hc]
 rw [e1,bj hc]
 rw [bI hc,bN] at hgo
 rw [show (c.st != 0) = !(c.st == 0) from rfl]
 generalize bN count c.link (l.take i ++ [c]) (l.drop (i + 1))=v9 at hgo ⊢
 generalize ck c (l.take i)=v8 at hgo ⊢
 generalize (c.port == 1883)=v7 at hgo ⊢
 generalize decide (c.link≤count)=v4 at hgo ⊢
 generalize decide (eu l i < c.link)=v3 at hgo ⊢
 generalize (c.st == 0)=v2 at hgo ⊢
 generalize cnB c=v1 at hgo ⊢
 subst hgo
 cases v1<;>cases v2<;>cases v3<;>cases v4<;>cases v7<;>cases v8<;>simp
theorem vk:(Tryz.prog).underlying 90=some (.map 92 4):=by kernel_rfl
theorem und4:(Tryz.prog).underlying 4=some .bool:=by kernel_rfl
theorem xT (w:World):(zeroValue 4).run Tryz.prog w = .ok (.bool false) w:=by kernel_rfl
structure MX where
 b:Nat
 i:Nat
 D:DataW Unit
 x:Int
 y:Int
theorem bB (h:Ho) (hc : ∀ c∈h.conns,aA c) (hl:h.conns.length≤100000000):ACallL Tryz.prog 19 [.agg (hoR h)] [.perm] (.val (.bool (aR h))) [.perm]:=by
 obtain ⟨l,count⟩:=h
 have px:=aQ l
 have ll:(l.map (cnR 0)).length=l.length:=by simp
 dsimp only [hoR] at hl hc ⊢
 obtain ⟨r,hr⟩ : ∃ r,aR ⟨l,count⟩=r:=⟨_,rfl⟩
 rw [hr]
 refine ACallL.of_AWs Tryz.func19 rfl (fun a w=>Tryz.call19 a w) (congrArg Array.toList Tryz.results19) Tryz.ntmps19 (by simp only [spine,List.cons_append,List.nil_append,List.append_assoc];rfl) fun B hB=>?_
 refine qAWs.cut af 1 (by simp only [List.take_succ_cons,List.take_zero];rfl) (by simp only [List.drop_succ_cons,List.drop_zero];rfl) (by simp only [aJ];rfl) rfl (X:=Unit) (fun _=>ap 83 [(1,.ptr 1 0 0),(2,.val (.bool false))]) (fun _=>[.perm,.live ⟨2,24,[[.list 0 16 (l.map (cnR 0)),.val (.int .i64 count)]]⟩]) (fun _=>True) ?_ ?_
 ·((conv=>whnf);(repeat' ((first|refine gT ?_|((with_reducible refine ai ?_ ?_);focus (simp;done))|((with_reducible refine aj ?_ ?_);focus (simp;done))|(with_reducible refine ab (fun _=>?_) (fun _=>?_)))<;>(conv=>whnf))))
  refine ⟨(),trivial,?_⟩
  (refine qcv hB [(1,1)] [(0,0)] [] ?_;repeat' (with_reducible first|exact trivial|refine And.intro ?_ ?_))
  all_goals first|rfl|(exact ao)|trace_state
 rintro ⟨⟩ -
 (try dsimp only)
 refine qAWs.ofG (k:=92) (e:=4) ?_
 refine qAGs.scope3 0 1 6 (by decide) rfl rfl (by simp only [spine,List.cons_append,List.nil_append,List.append_assoc,List.take_succ_cons,List.take_zero];try rfl) (by simp only [spine,List.cons_append,List.nil_append,List.append_assoc,List.drop_succ_cons,List.drop_zero];try rfl) (by simp only [spine,List.cons_append,List.nil_append,List.append_assoc];try rfl) (by simp only [spine,List.cons_append,List.nil_append,List.append_assoc];try rfl)
  (ap 83 []) [.perm] (r=false) (X:=MX) (fun x=>ap 83 [(1,.ptr 1 0 0),(2,.val (.bool false)),(3,.val (.map (some x.b))),(4,.val (.int .i64 (eu l x.i))),(5,.val (.int .i64 x.i)),(6,.ptr 2 0 0)])
  (fun x=>[.perm,.live ⟨2,24,[[.list 0 16 (l.map (cnR 0)),.val (.int .i64 count)]]⟩,.live ⟨2,92,[[.val (.int .i64 x.x),.val (.int .i64 x.y)]]⟩]) (fun x=>some (x.b,x.i,x.D))
  (fun x=>x.i≤l.length∧l.length≤8∧MapI x.D (l.take x.i)∧bN count (eu l x.i) (l.take x.i) (l.drop x.i)=r) (fun x=>l.length - x.i) ?_ ?_ ?_
 ·intro E hE
  refine qAGs.make rfl rfl rfl fun b=>?_
  (conv=>whnf)
  refine qAGs.go af fun B' => ?_
  (conv=>whnf)
  refine qAGs.go af fun B' => ?_
  (conv=>whnf)
  refine qAGs.go af fun B' => ?_
  (conv=>whnf)
  refine qAGs.go af fun B' => ?_
  have ways:r=false∧(decide (count < 0)=true∨decide (count < 0)=false∧(decide (1099511627776 < count)=true∨decide (1099511627776 < count)=false∧decide (8 < ((l.map (cnR 0)).length:Int))=true)) ∨
   (decide (count < 0)=false∧decide (1099511627776 < count)=false∧decide (8 < ((l.map (cnR 0)).length:Int))=false∧l.length≤8∧bN count 0 [] l=r):=by
   rw [← hr,ll]
   unfold aR am
   dsimp only
   by_cases h1:count < 0
   ·left;refine ⟨?_,.inl (by simpa using h1)⟩;simp;omega
   ·by_cases h2:1099511627776 < count
    ·left;refine ⟨?_,.inr ⟨by simpa using h1,.inl (by simpa using h2)⟩⟩;simp;omega
    ·by_cases h3:8 < l.length
     ·left;refine ⟨?_,.inr ⟨by simpa using h1,.inr ⟨by simpa using h2,by simp;omega⟩⟩⟩;simp;omega
     ·right
      have e1:decide (0≤count∧count≤1099511627776)=true:=by simp;omega
      have e2:decide (l.length≤8)=true:=by simp;omega
      refine ⟨by simpa using h1,by simpa using h2,by simp;omega,by omega,?_⟩
      rw [e1,e2,Bool.true_and,Bool.true_and]
  rcases ways with ⟨hbad,v1|⟨v1,v2|⟨v2,v3⟩⟩⟩|⟨v1,v2,v3,h8,hgo⟩
  all_goals
   ((conv=>whnf);(repeat' ((first|refine gT ?_|((with_reducible refine ai ?_ ?_);focus (simp;done))|((with_reducible refine aj ?_ ?_);focus (simp;done))|(with_reducible refine ab (fun _=>?_) (fun _=>?_)))<;>(conv=>whnf))))
   refine qAGs.go af fun B' => ?_
   ((conv=>whnf);(repeat' ((first|refine gT ?_|((with_reducible refine ai ?_ ?_);focus (simp;done))|((with_reducible refine aj ?_ ?_);focus (simp;done))|(with_reducible refine ab (fun _=>?_) (fun _=>?_)))<;>(conv=>whnf))))
   (try (refine qAGs.nil ?_))
   subst hE
  ·exact ⟨rfl,hbad,by (refine qcv hB [] [(0,0)] [] ?_;repeat' (with_reducible first|exact trivial|refine And.intro ?_ ?_))⟩
  ·exact ⟨rfl,hbad,by (refine qcv hB [] [(0,0)] [] ?_;repeat' (with_reducible first|exact trivial|refine And.intro ?_ ?_))⟩
  ·exact ⟨rfl,hbad,by (refine qcv hB [] [(0,0)] [] ?_;repeat' (with_reducible first|exact trivial|refine And.intro ?_ ?_))⟩
  ·refine ⟨⟨b,0,.map [],0,0⟩,⟨Nat.zero_le _,h8,MapI.start,hgo⟩,rfl,?_⟩
   (refine qcv hB [(1,1),(2,2)] [(0,0)] [] ?_;repeat' (with_reducible first|exact trivial|refine And.intro ?_ ?_))
   all_goals first|rfl|(exact ao)|trace_state
 ·rintro E ⟨b,i,D,x,y⟩ ⟨hi,h8,hM,hgo⟩ hE
  dsimp only at hi h8 hM hgo ⊢
  refine qAGs.go af fun B' => ?_
  by_cases hlt:i < l.length
  ·obtain ⟨c,hck⟩ : ∃ p,l[i]?=some p:=⟨_,List.getElem?_eq_getElem hlt⟩
   have hrow:(l.map (cnR 0))[(i:Int).toNat]?=some (cnR 0 c):=by simp [hck]
   have hno:((i:Int) == ((l.map (cnR 0)).length:Int))=false:=by rw [ll];simp;omega
   have w:=IntWalk.i64_in ((i:Int) + 1) (by omega)
   have p1:=al c.out
   have p2:=ar c.parts
   have cC:=dS c (hc c (List.mem_of_getElem? hck))
   dsimp only [cnR,cnL] at cC
   ((conv=>whnf);(repeat' ((first|refine gT ?_|((with_reducible refine ai ?_ ?_);focus (simp;done))|((with_reducible refine aj ?_ ?_);focus (simp;done))|(with_reducible refine ab (fun _=>?_) (fun _=>?_)))<;>(conv=>whnf))))
   refine qAGs.go af fun B' => ?_
   ((conv=>whnf);(repeat' ((first|refine gT ?_|((with_reducible refine ai ?_ ?_);focus (simp;done))|((with_reducible refine aj ?_ ?_);focus (simp;done))|(with_reducible refine ab (fun _=>?_) (fun _=>?_)))<;>(conv=>whnf))))
   refine qAGs.go af fun B' => ?_
   ((conv=>whnf);(repeat' ((first|refine gT ?_|((with_reducible refine ai ?_ ?_);focus (simp [hlt];done))|((with_reducible refine aj ?_ ?_);focus (simp [hlt];done))|(with_reducible refine ab (fun _=>?_) (fun _=>?_))|(refine ak (idxL rfl rfl rfl rfl rfl rfl (by omega) hrow) ?_))<;>(conv=>whnf))))
   refine qAGs.go af fun B' => ?_
   ((conv=>whnf);(repeat' ((first|refine gT ?_|((with_reducible refine ai ?_ ?_);focus (simp [hlt];done))|((with_reducible refine aj ?_ ?_);focus (simp [hlt];done))|(with_reducible refine ab (fun _=>?_) (fun _=>?_))|(refine ak (idxL rfl rfl rfl rfl rfl rfl (by omega) hrow) ?_))<;>(conv=>whnf))))
   rcases tK hck hgo with ⟨hbad,ways⟩|⟨v1,v2,v3,v4,v5,ways⟩
   ·rcases ways with v1|⟨v1,v2|⟨v2,v3|⟨v3,v4|⟨v4,v5⟩⟩⟩⟩
    all_goals
     rw [v1] at cC
     refine qAGs.go af fun B' => ?_
     ((conv=>whnf);(repeat' ((first|refine gT ?_|((with_reducible refine ai ?_ ?_);focus (simp;done))|((with_reducible refine aj ?_ ?_);focus (simp;done))|(with_reducible refine ab (fun _=>?_) (fun _=>?_))|((with_reducible refine qcp (cC) ?_);refine pT ?_))<;>(conv=>whnf))))
     refine qAGs.go af fun B' => ?_
     ((conv=>whnf);(repeat' ((first|refine gT ?_|((with_reducible refine ai ?_ ?_);focus (simp;done))|((with_reducible refine aj ?_ ?_);focus (simp;done))|(with_reducible refine ab (fun _=>?_) (fun _=>?_)))<;>(conv=>whnf))))
     refine qAGs.go af fun B' => ?_
     ((conv=>whnf);(repeat' ((first|refine gT ?_|((with_reducible refine ai ?_ ?_);focus (simp;done))|((with_reducible refine aj ?_ ?_);focus (simp;done))|(with_reducible refine ab (fun _=>?_) (fun _=>?_)))<;>(conv=>whnf))))
     refine qAGs.go af fun B' => ?_
     ((conv=>whnf);(repeat' ((first|refine gT ?_|((with_reducible refine ai ?_ ?_);focus (simp;done))|((with_reducible refine aj ?_ ?_);focus (simp;done))|(with_reducible refine ab (fun _=>?_) (fun _=>?_)))<;>(conv=>whnf))))
     refine qAGs.go af fun B' => ?_
     (conv=>whnf)
     subst hE hbad
     (conv=>whnf)
     (refine qcv hB [] [(0,0)] [] ?_;repeat' (with_reducible first|exact trivial|refine And.intro ?_ ?_))
   ·have hI:=(bh c).1 v1
    have hin:InP c:=⟨hI.ip,hI.pp⟩
    have e1:eu l (i + 1)=c.link:=by unfold eu;simp [List.getD,hck]
    have e2:=hM.at_ c hin
    have hM2:=hM.step hin
    rw [← bj hck] at hM2
    rw [v1] at cC
    obtain ⟨sn,hsn⟩ : ∃ b,ck c (l.take i)=b:=⟨_,rfl⟩
    rw [hsn] at e2 ways
    refine qAGs.look (kw (n:=28) (by simp only [List.take_succ_cons,List.take_zero];rfl) (by simp only [List.drop_succ_cons,List.drop_zero];rfl)) rfl j7 vk und4 xT ?_
    ((conv=>whnf);(repeat' ((first|refine gT ?_|((with_reducible refine ai ?_ ?_);focus (simp;done))|((with_reducible refine aj ?_ ?_);focus (simp;done))|(with_reducible refine ab (fun _=>?_) (fun _=>?_))|((with_reducible refine qcp (cC) ?_);refine pT ?_))<;>(conv=>whnf))))
    refine ⟨rfl,klP c.ip c.pp,so hin,Eq.trans (b:=some ((c.port == 1883) == true)) rfl (by rw [v5];rfl),fun cc hat=>?_⟩
    have e3:cc=sn:=by
     rw [e2] at hat
     simpa using hat.symm
    subst e3
    rcases ways with ⟨hbad,rfl⟩|⟨rfl,hgo2⟩
    ·((conv=>whnf);(repeat' ((first|refine gT ?_|((with_reducible refine ai ?_ ?_);focus (simp;done))|((with_reducible refine aj ?_ ?_);focus (simp;done))|(with_reducible refine ab (fun _=>?_) (fun _=>?_)))<;>(conv=>whnf))))
     refine qAGs.go af fun B' => ?_
     ((conv=>whnf);(repeat' ((first|refine gT ?_|((with_reducible refine ai ?_ ?_);focus (simp;done))|((with_reducible refine aj ?_ ?_);focus (simp;done))|(with_reducible refine ab (fun _=>?_) (fun _=>?_)))<;>(conv=>whnf))))
     refine qAGs.go af fun B' => ?_
     ((conv=>whnf);(repeat' ((first|refine gT ?_|((with_reducible refine ai ?_ ?_);focus (simp;done))|((with_reducible refine aj ?_ ?_);focus (simp;done))|(with_reducible refine ab (fun _=>?_) (fun _=>?_)))<;>(conv=>whnf))))
     refine qAGs.go af fun B' => ?_
     ((conv=>whnf);(repeat' ((first|refine gT ?_|((with_reducible refine ai ?_ ?_);focus (simp;done))|((with_reducible refine aj ?_ ?_);focus (simp;done))|(with_reducible refine ab (fun _=>?_) (fun _=>?_)))<;>(conv=>whnf))))
     refine qAGs.go af fun B' => ?_
     (conv=>whnf)
     subst hE hbad
     (conv=>whnf)
     (refine qcv hB [] [(0,0)] [] ?_;repeat' (with_reducible first|exact trivial|refine And.intro ?_ ?_))
    ·((conv=>whnf);(repeat' ((first|refine gT ?_|((with_reducible refine ai ?_ ?_);focus (simp;done))|((with_reducible refine aj ?_ ?_);focus (simp;done))|(with_reducible refine ab (fun _=>?_) (fun _=>?_)))<;>(conv=>whnf))))
     refine qAGs.condT rfl (by simp only [spine,List.cons_append,List.nil_append,List.append_assoc];rfl) fun E2 hE2=>?_
     refine qAGs.upd (kw (n:=2) (by simp only [List.take_succ_cons,List.take_zero];rfl) (by simp only [List.drop_succ_cons,List.drop_zero];rfl)) rfl rfl j7 vk und4 (by unfold maxLen;omega) ?_
     ((conv=>whnf);(repeat' ((first|refine gT ?_|((with_reducible refine ai ?_ ?_);focus (simp;done))|((with_reducible refine aj ?_ ?_);focus (simp;done))|(with_reducible refine ab (fun _=>?_) (fun _=>?_)))<;>(conv=>whnf))))
     refine ⟨rfl,klP c.ip c.pp,so hin,?_⟩
     (conv=>whnf)
     refine qAGs.go af fun B' => ?_
     ((conv=>whnf);(repeat' ((first|refine gT ?_|((with_reducible refine ai ?_ ?_);focus (simp;done))|((with_reducible refine aj ?_ ?_);focus (simp;done))|(with_reducible refine ab (fun _=>?_) (fun _=>?_)))<;>(conv=>whnf))))
     refine qAGs.go af fun B' => ?_
     ((conv=>whnf);(repeat' ((first|refine gT ?_|((with_reducible refine ai ?_ ?_);focus (simp;done))|((with_reducible refine aj ?_ ?_);focus (simp;done))|(with_reducible refine ab (fun _=>?_) (fun _=>?_)))<;>(conv=>whnf))))
     refine qAGs.go af fun B' => ?_
     (conv=>whnf)
     subst hE2
     subst hE
     refine .inr ⟨rfl,⟨b,i + 1,_,c.ip,c.pp⟩,⟨by dsimp only;omega,h8,hM2,hgo2⟩,by dsimp only;omega,rfl,?_⟩
     dsimp only
     rw [e1]
     (refine qcv hB [(1,1),(2,2)] [(0,0)] [] ?_;repeat' (with_reducible first|exact trivial|refine And.intro ?_ ?_))
     all_goals (try (first|rfl|(exact ao)|(simp [w];done)))
  ·have hie:i=l.length:=by omega
   subst hie
   have hno:(((l.length:Nat):Int) == ((l.map (cnR 0)).length:Int))=true:=by rw [ll];simp
   rw [List.drop_length,bN] at hgo
   subst hgo
   ((conv=>whnf);(repeat' ((first|refine gT ?_|((with_reducible refine ai ?_ ?_);focus (simp;done))|((with_reducible refine aj ?_ ?_);focus (simp;done))|(with_reducible refine ab (fun _=>?_) (fun _=>?_)))<;>(conv=>whnf))))
   refine qAGs.go af fun B' => ?_
   ((conv=>whnf);(repeat' ((first|refine gT ?_|((with_reducible refine ai ?_ ?_);focus (simp;done))|((with_reducible refine aj ?_ ?_);focus (simp;done))|(with_reducible refine ab (fun _=>?_) (fun _=>?_)))<;>(conv=>whnf))))
   subst hE
   (conv=>whnf)
   (refine qcv hB [] [(0,0)] [] ?_;repeat' (with_reducible first|exact trivial|refine And.intro ?_ ?_))
 ·intro E mp hbad hE
  refine qAGs.go af fun B' => ?_
  (conv=>whnf)
  refine qAGs.go af fun B' => ?_
  (conv=>whnf)
  refine qAGs.go af fun B' => ?_
  (conv=>whnf)
  subst hE hbad
  (conv=>whnf)
  (refine qcv hB [] [(0,0)] [] ?_;repeat' (with_reducible first|exact trivial|refine And.intro ?_ ?_))
theorem be {p q:Prop} (k:q) (h:Hold q→p:=by first|(intro hQ;refine And.intro ?_ ?_;(focus rfl);(conv=>whnf);(repeat (refine And.intro ?_ ?_;(focus (first|exact bA|(first|exact bl rfl rfl rfl _ rfl|exact hJ rfl rfl rfl rfl rfl rfl _ _ _|exact RowsRen.app (aK rfl rfl rfl _) gU)));(conv=>whnf)));(fail_if_success (with_reducible first|refine And.intro (bz ?_) ?_|refine And.intro (bD ?_) ?_));exact hQ.out)|fail):p:=h ⟨k⟩
abbrev hsA (y:Hs):AV := .tup [.agg [.glist 1 16 (y.h.conns.map (cnG 2 3 4)),.val (.int .i64 y.h.count)],.glist 5 8 (y.out.map (snG 6)),.glist 7 3 (y.heard.map (hdG 8)),.val (.int .i64 0)]
abbrev hsH:List Own:=[.perm,.uniq,.uniq,.uniq,.uniq,.uniq,.uniq,.uniq,.uniq]
abbrev noHo:AV := .agg [.val (.slice none 0 0),.val (.int .i64 0)]
theorem oB (h:Ho) (ip:Int) (s:Sg) (hc : ∀ c∈h.conns,aA c) (hl:h.conns.length≤100000000) (hno:(aR h && (am ip 4294967295 && sgB s))=false) :
 ACallL Tryz.prog 37 [.agg (hoR h),.val (.int .i64 ip),.agg (sgR 0 s)] [.perm] (.tup [noHo,.val (.slice none 0 0),.val (.slice none 0 0),.val (.int .i64 1)]) [.perm]:=by
 have px:=aQ h.conns
 have pz:=al s.data
 have cM:=bB h hc hl
 have cI:=gH ip
 have cS:=fV s
 obtain ⟨b1,h1⟩ : ∃ b,aR h=b:=⟨_,rfl⟩
 obtain ⟨b2,h2⟩ : ∃ b,am ip 4294967295=b:=⟨_,rfl⟩
 obtain ⟨b3,h3⟩ : ∃ b,sgB s=b:=⟨_,rfl⟩
 rw [h1,h2,h3] at hno
 rw [h1] at cM
 rw [h2] at cI
 rw [h3] at cS
 dsimp only [hoR,sgR,sgL] at cM cS ⊢
 cases b1<;>cases b2<;>cases b3<;>first|(exact absurd hno (by decide))|skip
 all_goals
  refine ACallL.of_ev af Tryz.func37 rfl (fun a w=>Tryz.call37 a w) (congrArg Array.toList Tryz.results37) Tryz.ntmps37 fun B hB=>?_
  ((conv=>whnf);(repeat' ((first|refine gT ?_|((with_reducible refine ai ?_ ?_);focus (simp;done))|((with_reducible refine aj ?_ ?_);focus (simp;done))|(with_reducible refine ab (fun _=>?_) (fun _=>?_))|((with_reducible refine qcp (cM) ?_);refine pT ?_)|((with_reducible refine qcp (cI) ?_);refine pT ?_)|((with_reducible refine qcp (cS) ?_);refine pT ?_))<;>(conv=>whnf))))
  (refine qcv hB [] [(0,0)] [] ?_;repeat' (with_reducible first|exact trivial|refine And.intro ?_ ?_))
section
variable {L I F:Prs} {h:Hp} {o p d o' p' d' r:Nat}
theorem ir {n o2 p2 d2:Nat} (h0:I.has o o' = true) (h1:I.has p p' = true) (h2:I.has d d' = true) (g0:I.has o2 o' = true) (g1:I.has p2 p' = true) (g2:I.has d2 d' = true) (l:List Cn) (i:Nat) (c:Cn) (hn:n=l.length) :
 RowsRen (qOf L I F) h ((((l.map (cnG o p d)).set i (cnG o2 p2 d2 c)).drop 0).take n) ((l.set i c).map (cnG o' p' d')) :=
 RowsRen.cast (by rw [List.drop_zero,List.take_of_length_le (by simp [hn])]) (wx h0 h1 h2 g0 g1 g2 l i c)
theorem hX {n i:Nat} (h0:I.has o o' = true) (h1:I.has p p' = true) (h2:I.has d d' = true) (l:List Cn) (hi:i < l.length) (hn:n=l.length - 1) :
 RowsRen (qOf L I F) h ((((l.eraseIdx i).map (cnG o p d) ++ [zR]).drop 0).take n) ((l.eraseIdx i).map (cnG o' p' d')) :=
 RowsRen.cast (by
  have hl:(l.eraseIdx i).length=l.length - 1:=by rw [List.length_eraseIdx,if_pos hi]
  rw [List.drop_zero,List.take_append_of_le_length (by simp [hl,hn]),List.take_of_length_le (by simp [hl,hn])]) (aK h0 h1 h2 _)
end
theorem u9 {L I F:Prs} {h:Hp} {r r' : Nat} (h0:I.has r r' = true) (x:Hd):RowsRen (qOf L I F) h [hdG r x] [hdG r' x]:=RowsRen.one (.cons (.val _) (.cons (Ren.gg h0 _) (.cons (.val _) .nil)))
theorem o0 (l:List Cn) (count ip:Int) (s:Sg) (H:HoI ⟨l,count⟩) (hip:0≤ip∧ip≤4294967295) (hs:sgB s=true) (i:Nat) (c:Cn) (hi:l.findIdx? (hisB ip s)=some i) (hci:l[i]?=some c) (hp:hisB ip s c=true) :
 ACallL Tryz.prog 37 [.agg (hoR ⟨l,count⟩),.val (.int .i64 ip),.agg (sgR 0 s)] [.perm] (hsA ⟨Ho.put ⟨l,count⟩ i (c.takes s).c,toS ip (c.takes s).out,dR c.link (c.takes s).told (endB c.st (c.takes s).c.st)⟩) hsH:=by
 have px:=aQ l
 have pz:=al s.data
 have hl:=H.len
 dsimp only at hl
 have hok:=(H.ok c (List.mem_of_getElem? hci)).1
 have hcl : ∀ d∈l,aA d:=fun d hd=>(H.ok d hd).1.I.cnLen
 have cM:=bB ⟨l,count⟩ hcl (by dsimp only;omega)
 rw [(aU _).2 H] at cM
 have cI:=gH ip
 rw [show am ip 4294967295=true by unfold am;simp;omega] at cI
 have cS:=fV s
 rw [hs] at cS
 have hil:=(List.getElem?_eq_some_iff.1 hci).1
 have cO:=fk l count (fun e=>by rw [e] at hil;cases hil) (by omega) hcl
 have cX:=pQ l ip s (by omega)
 rw [hi] at cX
 dsimp only [idxI] at cX
 have hfit:fc c s=true:=by
  unfold hisB at hp
  simp only [Bool.and_eq_true,beq_iff_eq] at hp
  unfold fc
  rw [hs,hp.2.2,hok.port,hp.1]
  simp
 have cT:=sE c s ((bh _).2 hok.I) hfit
 have cE:=vU c (c.takes s).c
 rw [wu c s hok.st hok.I.st] at cE
 have hyl:=(jb hok.I hs).cnt
 have hlk:=(jb hok.I hs).e1
 obtain ⟨y,hy⟩ : ∃ y,c.takes s=y:=⟨_,rfl⟩
 rw [hy] at cT cE hyl hlk ⊢
 have cTo:=to_l ip y.out (by omega)
 have hrow:(l.map (cnG 6 7 8))[i]?=some (cnG 6 7 8 c):=by simp [hci]
 have e1:0 + (i:Int).toNat=i:=by omega
 have hi0:decide ((i:Int) < 0)=false:=by simp
 obtain ⟨e,he⟩ : ∃ e,endB c.st y.c.st=e:=⟨_,rfl⟩
 rw [he] at cE ⊢
 unfold Ho.put
 dsimp only
 have hh:(e=true∨e=false∧decide (0 < ((y.told.map bR).length:Int))=true)∧dR c.link y.told e=[⟨y.c.link,y.told,e⟩]∨(e=false∧decide (0 < ((y.told.map bR).length:Int))=false)∧dR c.link y.told e=[]:=by
  rw [hlk]
  unfold dR
  cases e<;>cases y.told<;>simp
 cases hs0:(y.c.st == 0)
 ·have cSt:=qg l count i y.c hil hs0
  rw [cond_false]
  dsimp only [hoR,sgR,sgL,cnR] at cM cS cO cX cT cE ⊢
  rcases hh with ⟨hh,e2⟩|⟨⟨rfl,h2⟩,e2⟩
  ·rw [e2]
   rcases hh with rfl|⟨rfl,h2⟩
   all_goals
    refine ACallL.of_ev af Tryz.func37 rfl (fun a w=>Tryz.call37 a w) (congrArg Array.toList Tryz.results37) Tryz.ntmps37 fun B hB=>?_
    ((conv=>whnf);(repeat' ((first|refine gT ?_|((with_reducible refine ai ?_ ?_);focus (simp;done))|((with_reducible refine aj ?_ ?_);focus (simp;done))|(with_reducible refine ab (fun _=>?_) (fun _=>?_))|((with_reducible refine qcp (cM) ?_);refine pT ?_)|((with_reducible refine qcp (cI) ?_);refine pT ?_)|((with_reducible refine qcp (cS) ?_);refine pT ?_)|(((with_reducible refine qco (cO) [] [(0,0)] [] [(1,5),(2,6),(3,7),(4,8)] [(5,cnB' (l.map (cnG 6 7 8))),(6,.uniq),(7,.uniq),(8,.uniq)] (.agg [.sl 5 0 l.length,.val (.int .i64 count)]) ?_);refine be ?_))|(((with_reducible refine qco (cX) [(1,3),(2,2)] [(0,6),(0,7),(0,8),(3,0)] [(0,5)] [] [(3,sgB1 (sgR 0 s)),(2,inB1 ip)] (.val (.int .i64 i)) ?_);refine be ?_))|(refine ak (idxS rfl rfl rfl rfl rfl rfl rfl rfl (by omega)) ?_)|(refine ak (ldR' rfl rfl rfl rfl rfl (by with_reducible exact e1) hrow rfl) ?_)|(((with_reducible refine qco (cT) [] [(0,0),(0,6),(0,7),(0,8)] [] [(1,10),(2,11),(3,12),(4,13),(5,14),(6,15)] [(10,.uniq),(11,.uniq),(12,.uniq),(13,.uniq),(14,.uniq),(15,.uniq)] (.tup [.agg (cnG 10 11 12 y.c),.glist 13 7 (y.out.map (sgG 14)),gL 15 y.told,.val (.int .i64 0)]) ?_);refine be ?_))|(((with_reducible refine qco (cSt) [(1,1),(2,5)] [(0,0),(3,10),(4,11),(5,12),(6,6),(7,7),(8,8)] [] [] [(1,hoB 5 l.length count),(5,cnB' ((l.map (cnG 6 7 8)).set i (cnG 10 11 12 y.c)))] (.tup []) ?_);refine be ?_))|(((with_reducible refine qcr (cE) [(0,0),(0,6),(0,7),(0,8),(0,10),(0,11),(0,12)] [] ?_);refine be ?_))|(refine ak (apN (nb:=40) rfl rfl rfl rfl rfl rfl rfl rfl ⟨Nat.zero_lt_succ _,Nat.zero_lt_succ _,rfl⟩ rfl (by decide) (by decide)) ?_)|(((with_reducible refine qco (cTo) [] [(0,0),(1,13),(2,14)] [] [(3,19)] [(19,.uniq)] (.glist 19 8 ((toS ip y.out).map (snG 14))) ?_);refine be ?_)))<;>(conv=>whnf))))
    (refine qcv hB [] [(0,0),(6,2),(10,2),(7,3),(11,3),(8,4),(12,4),(19,5),(14,6),(15,8)] [(5,1),(18,7)] ?_;repeat' (with_reducible first|exact trivial|refine And.intro ?_ ?_))
    all_goals first|rfl|exact ir rfl rfl rfl rfl rfl rfl _ _ _ rfl|exact bf rfl _|(exact ao)|exact u9 rfl _|trace_state
  ·rw [e2]
   refine ACallL.of_ev af Tryz.func37 rfl (fun a w=>Tryz.call37 a w) (congrArg Array.toList Tryz.results37) Tryz.ntmps37 fun B hB=>?_
   ((conv=>whnf);(repeat' ((first|refine gT ?_|((with_reducible refine ai ?_ ?_);focus (simp;done))|((with_reducible refine aj ?_ ?_);focus (simp;done))|(with_reducible refine ab (fun _=>?_) (fun _=>?_))|((with_reducible refine qcp (cM) ?_);refine pT ?_)|((with_reducible refine qcp (cI) ?_);refine pT ?_)|((with_reducible refine qcp (cS) ?_);refine pT ?_)|(((with_reducible refine qco (cO) [] [(0,0)] [] [(1,5),(2,6),(3,7),(4,8)] [(5,cnB' (l.map (cnG 6 7 8))),(6,.uniq),(7,.uniq),(8,.uniq)] (.agg [.sl 5 0 l.length,.val (.int .i64 count)]) ?_);refine be ?_))|(((with_reducible refine qco (cX) [(1,3),(2,2)] [(0,6),(0,7),(0,8),(3,0)] [(0,5)] [] [(3,sgB1 (sgR 0 s)),(2,inB1 ip)] (.val (.int .i64 i)) ?_);refine be ?_))|(refine ak (idxS rfl rfl rfl rfl rfl rfl rfl rfl (by omega)) ?_)|(refine ak (ldR' rfl rfl rfl rfl rfl (by with_reducible exact e1) hrow rfl) ?_)|(((with_reducible refine qco (cT) [] [(0,0),(0,6),(0,7),(0,8)] [] [(1,10),(2,11),(3,12),(4,13),(5,14),(6,15)] [(10,.uniq),(11,.uniq),(12,.uniq),(13,.uniq),(14,.uniq),(15,.uniq)] (.tup [.agg (cnG 10 11 12 y.c),.glist 13 7 (y.out.map (sgG 14)),gL 15 y.told,.val (.int .i64 0)]) ?_);refine be ?_))|(((with_reducible refine qco (cSt) [(1,1),(2,5)] [(0,0),(3,10),(4,11),(5,12),(6,6),(7,7),(8,8)] [] [] [(1,hoB 5 l.length count),(5,cnB' ((l.map (cnG 6 7 8)).set i (cnG 10 11 12 y.c)))] (.tup []) ?_);refine be ?_))|(((with_reducible refine qcr (cE) [(0,0),(0,6),(0,7),(0,8),(0,10),(0,11),(0,12)] [] ?_);refine be ?_))|(((with_reducible refine qco (cTo) [] [(0,0),(1,13),(2,14)] [] [(3,17)] [(17,.uniq)] (.glist 17 8 ((toS ip y.out).map (snG 14))) ?_);refine be ?_)))<;>(conv=>whnf))))
   (refine qcv hB [] [(0,0),(6,2),(10,2),(7,3),(11,3),(8,4),(12,4),(17,5),(14,6),(15,8)] [(5,1)] ?_;repeat' (with_reducible first|exact trivial|refine And.intro ?_ ?_))
   all_goals first|rfl|exact ir rfl rfl rfl rfl rfl rfl _ _ _ rfl|exact bf rfl _|(exact ao)|trace_state
 ·have cSt:=na l count i y.c hil (by omega) hs0
  rw [cond_true]
  dsimp only [hoR,sgR,sgL,cnR] at cM cS cO cX cT cE ⊢
  rcases hh with ⟨hh,e2⟩|⟨⟨rfl,h2⟩,e2⟩
  ·rw [e2]
   rcases hh with rfl|⟨rfl,h2⟩
   all_goals
    refine ACallL.of_ev af Tryz.func37 rfl (fun a w=>Tryz.call37 a w) (congrArg Array.toList Tryz.results37) Tryz.ntmps37 fun B hB=>?_
    ((conv=>whnf);(repeat' ((first|refine gT ?_|((with_reducible refine ai ?_ ?_);focus (simp;done))|((with_reducible refine aj ?_ ?_);focus (simp;done))|(with_reducible refine ab (fun _=>?_) (fun _=>?_))|((with_reducible refine qcp (cM) ?_);refine pT ?_)|((with_reducible refine qcp (cI) ?_);refine pT ?_)|((with_reducible refine qcp (cS) ?_);refine pT ?_)|(((with_reducible refine qco (cO) [] [(0,0)] [] [(1,5),(2,6),(3,7),(4,8)] [(5,cnB' (l.map (cnG 6 7 8))),(6,.uniq),(7,.uniq),(8,.uniq)] (.agg [.sl 5 0 l.length,.val (.int .i64 count)]) ?_);refine be ?_))|(((with_reducible refine qco (cX) [(1,3),(2,2)] [(0,6),(0,7),(0,8),(3,0)] [(0,5)] [] [(3,sgB1 (sgR 0 s)),(2,inB1 ip)] (.val (.int .i64 i)) ?_);refine be ?_))|(refine ak (idxS rfl rfl rfl rfl rfl rfl rfl rfl (by omega)) ?_)|(refine ak (ldR' rfl rfl rfl rfl rfl (by with_reducible exact e1) hrow rfl) ?_)|(((with_reducible refine qco (cT) [] [(0,0),(0,6),(0,7),(0,8)] [] [(1,10),(2,11),(3,12),(4,13),(5,14),(6,15)] [(10,.uniq),(11,.uniq),(12,.uniq),(13,.uniq),(14,.uniq),(15,.uniq)] (.tup [.agg (cnG 10 11 12 y.c),.glist 13 7 (y.out.map (sgG 14)),gL 15 y.told,.val (.int .i64 0)]) ?_);refine be ?_))|(((with_reducible refine qco (cSt) [(1,1),(2,5)] [(0,0),(3,10),(4,11),(5,12),(6,6),(7,7),(8,8)] [] [] [(1,hoB 5 (l.length - 1) count),(5,cnB' ((l.eraseIdx i).map (cnG 6 7 8) ++ [zR]))] (.tup []) ?_);refine be ?_))|(((with_reducible refine qcr (cE) [(0,0),(0,6),(0,7),(0,8),(0,10),(0,11),(0,12)] [] ?_);refine be ?_))|(refine ak (apN (nb:=40) rfl rfl rfl rfl rfl rfl rfl rfl ⟨Nat.zero_lt_succ _,Nat.zero_lt_succ _,rfl⟩ rfl (by decide) (by decide)) ?_)|(((with_reducible refine qco (cTo) [] [(0,0),(1,13),(2,14)] [] [(3,19)] [(19,.uniq)] (.glist 19 8 ((toS ip y.out).map (snG 14))) ?_);refine be ?_)))<;>(conv=>whnf))))
    (refine qcv hB [] [(0,0),(6,2),(10,2),(7,3),(11,3),(8,4),(12,4),(19,5),(14,6),(15,8)] [(5,1),(18,7)] ?_;repeat' (with_reducible first|exact trivial|refine And.intro ?_ ?_))
    all_goals first|rfl|exact hX rfl rfl rfl _ hil rfl|exact bf rfl _|(exact ao)|exact u9 rfl _|trace_state
  ·rw [e2]
   refine ACallL.of_ev af Tryz.func37 rfl (fun a w=>Tryz.call37 a w) (congrArg Array.toList Tryz.results37) Tryz.ntmps37 fun B hB=>?_
   ((conv=>whnf);(repeat' ((first|refine gT ?_|((with_reducible refine ai ?_ ?_);focus (simp;done))|((with_reducible refine aj ?_ ?_);focus (simp;done))|(with_reducible refine ab (fun _=>?_) (fun _=>?_))|((with_reducible refine qcp (cM) ?_);refine pT ?_)|((with_reducible refine qcp (cI) ?_);refine pT ?_)|((with_reducible refine qcp (cS) ?_);refine pT ?_)|(((with_reducible refine qco (cO) [] [(0,0)] [] [(1,5),(2,6),(3,7),(4,8)] [(5,cnB' (l.map (cnG 6 7 8))),(6,.uniq),(7,.uniq),(8,.uniq)] (.agg [.sl 5 0 l.length,.val (.int .i64 count)]) ?_);refine be ?_))|(((with_reducible refine qco (cX) [(1,3),(2,2)] [(0,6),(0,7),(0,8),(3,0)] [(0,5)] [] [(3,sgB1 (sgR 0 s)),(2,inB1 ip)] (.val (.int .i64 i)) ?_);refine be ?_))|(refine ak (idxS rfl rfl rfl rfl rfl rfl rfl rfl (by omega)) ?_)|(refine ak (ldR' rfl rfl rfl rfl rfl (by with_reducible exact e1) hrow rfl) ?_)|(((with_reducible refine qco (cT) [] [(0,0),(0,6),(0,7),(0,8)] [] [(1,10),(2,11),(3,12),(4,13),(5,14),(6,15)] [(10,.uniq),(11,.uniq),(12,.uniq),(13,.uniq),(14,.uniq),(15,.uniq)] (.tup [.agg (cnG 10 11 12 y.c),.glist 13 7 (y.out.map (sgG 14)),gL 15 y.told,.val (.int .i64 0)]) ?_);refine be ?_))|(((with_reducible refine qco (cSt) [(1,1),(2,5)] [(0,0),(3,10),(4,11),(5,12),(6,6),(7,7),(8,8)] [] [] [(1,hoB 5 (l.length - 1) count),(5,cnB' ((l.eraseIdx i).map (cnG 6 7 8) ++ [zR]))] (.tup []) ?_);refine be ?_))|(((with_reducible refine qcr (cE) [(0,0),(0,6),(0,7),(0,8),(0,10),(0,11),(0,12)] [] ?_);refine be ?_))|(((with_reducible refine qco (cTo) [] [(0,0),(1,13),(2,14)] [] [(3,17)] [(17,.uniq)] (.glist 17 8 ((toS ip y.out).map (snG 14))) ?_);refine be ?_)))<;>(conv=>whnf))))
   (refine qcv hB [] [(0,0),(6,2),(10,2),(7,3),(11,3),(8,4),(12,4),(17,5),(14,6),(15,8)] [(5,1)] ?_;repeat' (with_reducible first|exact trivial|refine And.intro ?_ ?_))
   all_goals first|rfl|exact hX rfl rfl rfl _ hil rfl|exact bf rfl _|(exact ao)|trace_state
theorem dc {p q:Prop} (k:q) (h:Hold q→p:=by first|(intro hQ;refine And.intro ?_ ?_;(focus rfl);(conv=>whnf);(repeat (refine And.intro ?_ ?_;(focus (first|exact bA|(first|exact bl rfl rfl rfl _ rfl|exact p9 _ rfl|exact vf _ rfl rfl rfl rfl _|exact RowsRen.app (aK rfl rfl rfl _) (RowsRen.one (fb rfl rfl rfl _))|(refine RowsRen.one ?_;exact .cons (.val _) (.cons (.val _) (.cons (.val _) (.cons (.val _) (.cons (.val _) (.cons (.val _) (.cons (.val _) (.cons (.val _) .nil)))))))))));(conv=>whnf)));(fail_if_success (with_reducible first|refine And.intro (bz ?_) ?_|refine And.intro (bD ?_) ?_));exact hQ.out)|fail):p:=h ⟨k⟩
theorem vy (h:Ho) (ip:Int) (s:Sg) : ∃ m,(h.more ip s).out=[(ip,m)]∧m.fl=18:=⟨_,rfl,rfl⟩
theorem mf (s:Sg):(bm s).fl≠18∧(bm s).data=[]:=by
 unfold bm
 cases flN s.fl 16<;>first|exact ⟨by show (4:Int)≠18;decide,rfl⟩|exact ⟨by show (20:Int)≠18;decide,rfl⟩
theorem qC {h:Ho} (H:HoI h) (ip:Int) {s:Sg} (hs:sgB s=true) (hr:h.fresh ip s=⟨h,[],[]⟩∨h.fresh ip s=⟨h,[(ip,bm s)],[]⟩) :
 (h.fresh ip s).h=h∧(h.fresh ip s).out≠(h.more ip s).out∧(∀ p∈(h.fresh ip s).out,p.2.data=[])∧(h.fresh ip s).heard=[]:=by
 obtain ⟨m,e1,e2⟩:=vy h ip s
 obtain ⟨f1,f2⟩:=mf s
 rw [e1]
 rcases hr with e|e
 ·rw [e];exact ⟨rfl,by simp,by simp,rfl⟩
 ·rw [e]
  refine ⟨rfl,fun h=>?_,fun p hp=>?_,rfl⟩
  ·have h:[(ip,bm s)]=[(ip,m)]:=h
   simp only [List.cons.injEq,Prod.mk.injEq,true_and,and_true] at h
   rw [h] at f1
   exact f1 e2
  ·rw [List.mem_singleton.1 hp];exact f2
theorem rH {L I F:Prs} {h:Hp} {r' : Nat} (l:List (Int × Sg)) (hl : ∀ p∈l,p.2.data=[]):RowsRen (qOf L I F) h (l.map snN) (l.map (snG r')) :=
 RowsRen.mapF l _ _ fun p hp => .cons (.val _) (.cons (.val _) (.cons (.val _) (.cons (.val _) (.cons (.val _) (.cons (.val _) (.cons (.val _) (.cons (by rw [hl p hp];exact Ren.vgnil _ _) .nil)))))))
theorem je (l:List Cn) (count ip:Int) (s:Sg) (H:HoI ⟨l,count⟩) (hip:0≤ip∧ip≤4294967295) (hs:sgB s=true) (hi:l.findIdx? (hisB ip s)=none) :
 ACallL Tryz.prog 37 [.agg (hoR ⟨l,count⟩),.val (.int .i64 ip),.agg (sgR 0 s)] [.perm] (hsA (Ho.fresh ⟨l,count⟩ ip s)) hsH:=by
 have px:=aQ l
 have pz:=al s.data
 have hl:=H.len
 dsimp only at hl
 have hcl : ∀ d∈l,aA d:=fun d hd=>(H.ok d hd).1.I.cnLen
 have cM:=bB ⟨l,count⟩ hcl (by dsimp only;omega)
 rw [(aU _).2 H] at cM
 have cI:=gH ip
 rw [show am ip 4294967295=true by unfold am;simp;omega] at cI
 have cS:=fV s
 rw [hs] at cS
 have cX:=pQ l ip s (by omega)
 rw [hi] at cX
 dsimp only [idxI] at cX
 have ways:=ie H ip hs
 by_cases hkeep:Ho.fresh ⟨l,count⟩ ip s=⟨⟨l,count⟩,[],[]⟩∨Ho.fresh ⟨l,count⟩ ip s=⟨⟨l,count⟩,[(ip,bm s)],[]⟩
 ·obtain ⟨k1,k2,k3,k4⟩:=qC H ip hs hkeep
  by_cases h0:l=[]
  ·subst h0
   have cO:=jU count
   have cF:=rt count ip s H hs k1 k2
   obtain ⟨⟨rh,ro,rd⟩,hr⟩ : ∃ r,Ho.fresh ⟨[],count⟩ ip s=r:=⟨_,rfl⟩
   rw [hr] at k1 k3 k4 cF ⊢
   dsimp only at k1 k3 k4 cF ⊢
   subst k1 k4
   dsimp only [hoR,sgR,sgL] at cM cS cO cX cF ⊢
   refine ACallL.of_ev af Tryz.func37 rfl (fun a w=>Tryz.call37 a w) (congrArg Array.toList Tryz.results37) Tryz.ntmps37 fun B hB=>?_
   ((conv=>whnf);(repeat' ((first|refine gT ?_|((with_reducible refine ai ?_ ?_);focus (simp;done))|((with_reducible refine aj ?_ ?_);focus (simp;done))|(with_reducible refine ab (fun _=>?_) (fun _=>?_))|((with_reducible refine qcp (cM) ?_);refine pT ?_)|((with_reducible refine qcp (cI) ?_);refine pT ?_)|((with_reducible refine qcp (cS) ?_);refine pT ?_)|(((with_reducible refine qco (cO) [] [(0,0)] [] [(1,5)] [(5,.uniq)] (.agg [.glist 5 16 [],.val (.int .i64 count)]) ?_);refine dc ?_))|(((with_reducible refine qco (cX) [(1,3),(2,2)] [(0,5),(3,0)] [] [] [(3,sgB1 (sgR 0 s)),(2,inB1 ip)] (.val (.int .i64 (-1))) ?_);refine dc ?_))|(((with_reducible refine qco (cF) [(1,1)] [(0,0),(2,5)] [] [(3,6)] [(1,hoB0 5 count),(6,.uniq)] (.glist 6 8 (ro.map snN)) ?_);refine dc ?_)))<;>(conv=>whnf))))
   (refine qcv hB [] [(0,0),(5,1),(6,5)] [] ?_;repeat' (with_reducible first|exact trivial|refine And.intro ?_ ?_))
   all_goals first|rfl|exact rH _ k3|trace_state
  ·have cO:=fk l count h0 (by omega) hcl
   have cF:=uN l count ip s H hs k1 k2
   obtain ⟨⟨rh,ro,rd⟩,hr⟩ : ∃ r,Ho.fresh ⟨l,count⟩ ip s=r:=⟨_,rfl⟩
   rw [hr] at k1 k3 k4 cF ⊢
   dsimp only at k1 k3 k4 cF ⊢
   subst k1 k4
   dsimp only [hoR,sgR,sgL] at cM cS cO cX cF ⊢
   refine ACallL.of_ev af Tryz.func37 rfl (fun a w=>Tryz.call37 a w) (congrArg Array.toList Tryz.results37) Tryz.ntmps37 fun B hB=>?_
   ((conv=>whnf);(repeat' ((first|refine gT ?_|((with_reducible refine ai ?_ ?_);focus (simp;done))|((with_reducible refine aj ?_ ?_);focus (simp;done))|(with_reducible refine ab (fun _=>?_) (fun _=>?_))|((with_reducible refine qcp (cM) ?_);refine pT ?_)|((with_reducible refine qcp (cI) ?_);refine pT ?_)|((with_reducible refine qcp (cS) ?_);refine pT ?_)|(((with_reducible refine qco (cO) [] [(0,0)] [] [(1,5),(2,6),(3,7),(4,8)] [(5,cnB' (l.map (cnG 6 7 8))),(6,.uniq),(7,.uniq),(8,.uniq)] (.agg [.sl 5 0 l.length,.val (.int .i64 count)]) ?_);refine dc ?_))|(((with_reducible refine qco (cX) [(1,3),(2,2)] [(0,6),(0,7),(0,8),(3,0)] [(0,5)] [] [(3,sgB1 (sgR 0 s)),(2,inB1 ip)] (.val (.int .i64 (-1))) ?_);refine dc ?_))|(((with_reducible refine qco (cF) [(1,1),(2,5)] [(0,0),(3,6),(4,7),(5,8)] [] [(6,9)] [(1,hoB 5 l.length count),(5,cnB' (l.map (cnG 6 7 8))),(9,.uniq)] (.glist 9 8 (ro.map snN)) ?_);refine dc ?_)))<;>(conv=>whnf))))
   (refine qcv hB [] [(0,0),(6,2),(7,3),(8,4),(9,5)] [(5,1)] ?_;repeat' (with_reducible first|exact trivial|refine And.intro ?_ ?_))
   all_goals first|rfl|exact rH _ k3|(refine RowsRen.cast ?_ (aK (o:=6) (p:=7) (d:=8) rfl rfl rfl l);rw [List.drop_zero,List.take_of_length_le (by simp)])|trace_state
 ·rcases ways with ⟨w1,e⟩|⟨w1,e,w⟩|⟨w1,e,w2,w3,w4,w5,w6⟩
  ·exact absurd (.inl e) hkeep
  ·exact absurd (.inr e) hkeep
  ·rw [e]
   unfold Ho.more
   dsimp only at w4 w5 w6 ⊢
   obtain ⟨y,hy⟩ : ∃ y,ce (count + 1) ip (wadd 0 (64000 * (count + 1))) s=y:=⟨_,rfl⟩
   rw [hy]
   by_cases h0:l=[]
   ·subst h0
    have cO:=jU count
    have cF:=oI count ip s H hip hs y hy w1 w2 w3 w6
    dsimp only [hoR,sgR,sgL,hsA] at cM cS cO cX cF ⊢
    refine ACallL.of_ev af Tryz.func37 rfl (fun a w=>Tryz.call37 a w) (congrArg Array.toList Tryz.results37) Tryz.ntmps37 fun B hB=>?_
    ((conv=>whnf);(repeat' ((first|refine gT ?_|((with_reducible refine ai ?_ ?_);focus (simp;done))|((with_reducible refine aj ?_ ?_);focus (simp;done))|(with_reducible refine ab (fun _=>?_) (fun _=>?_))|((with_reducible refine qcp (cM) ?_);refine pT ?_)|((with_reducible refine qcp (cI) ?_);refine pT ?_)|((with_reducible refine qcp (cS) ?_);refine pT ?_)|(((with_reducible refine qco (cO) [] [(0,0)] [] [(1,5)] [(5,.uniq)] (.agg [.glist 5 16 [],.val (.int .i64 count)]) ?_);refine dc ?_))|(((with_reducible refine qco (cX) [(1,3),(2,2)] [(0,5),(3,0)] [] [] [(3,sgB1 (sgR 0 s)),(2,inB1 ip)] (.val (.int .i64 (-1))) ?_);refine dc ?_))|(((with_reducible refine qco (cF) [(1,1)] [(0,0),(2,5)] [] [(3,6),(4,7),(5,8),(6,9),(7,10),(8,11)] [(1,.live ⟨2,24,[[.glist 8 16 [cnG 9 10 11 y.c],.val (.int .i64 (count + 1))]]⟩),(5,.dead),(6,.uniq),(7,.uniq),(8,.uniq),(9,.uniq),(10,.uniq),(11,.uniq)] (.glist 6 8 ((toS ip y.out).map (snG 7))) ?_);refine dc ?_)))<;>(conv=>whnf))))
    (refine qcv hB [] [(0,0),(8,1),(9,2),(10,3),(11,4),(6,5),(7,6)] [] ?_;repeat' (with_reducible first|exact trivial|refine And.intro ?_ ?_))
    all_goals first|rfl|exact bf rfl _|exact RowsRen.one (fb rfl rfl rfl _)|trace_state
   ·have cO:=fk l count h0 (by omega) hcl
    have cF:=qv l count ip s H hip hs y hy w1 w2 w3 w4 w5 w6
    dsimp only [hoR,sgR,sgL,hsA] at cM cS cO cX cF ⊢
    refine ACallL.of_ev af Tryz.func37 rfl (fun a w=>Tryz.call37 a w) (congrArg Array.toList Tryz.results37) Tryz.ntmps37 fun B hB=>?_
    ((conv=>whnf);(repeat' ((first|refine gT ?_|((with_reducible refine ai ?_ ?_);focus (simp;done))|((with_reducible refine aj ?_ ?_);focus (simp;done))|(with_reducible refine ab (fun _=>?_) (fun _=>?_))|((with_reducible refine qcp (cM) ?_);refine pT ?_)|((with_reducible refine qcp (cI) ?_);refine pT ?_)|((with_reducible refine qcp (cS) ?_);refine pT ?_)|(((with_reducible refine qco (cO) [] [(0,0)] [] [(1,5),(2,6),(3,7),(4,8)] [(5,cnB' (l.map (cnG 6 7 8))),(6,.uniq),(7,.uniq),(8,.uniq)] (.agg [.sl 5 0 l.length,.val (.int .i64 count)]) ?_);refine dc ?_))|(((with_reducible refine qco (cX) [(1,3),(2,2)] [(0,6),(0,7),(0,8),(3,0)] [(0,5)] [] [(3,sgB1 (sgR 0 s)),(2,inB1 ip)] (.val (.int .i64 (-1))) ?_);refine dc ?_))|(((with_reducible refine qco (cF) [(1,1),(2,5)] [(0,0),(3,6),(4,7),(5,8)] [] [(6,9),(7,10),(8,11),(9,12),(10,13),(11,14)] [(1,hoB 11 (l.length + 1) (count + 1)),(5,.dead),(9,.uniq),(10,.uniq),(11,cnB' (l.map (cnG 6 7 8) ++ [cnG 12 13 14 y.c])),(12,.uniq),(13,.uniq),(14,.uniq)] (.glist 9 8 ((toS ip y.out).map (snG 10))) ?_);refine dc ?_)))<;>(conv=>whnf))))
    (refine qcv hB [] [(0,0),(6,2),(12,2),(7,3),(13,3),(8,4),(14,4),(9,5),(10,6)] [(11,1)] ?_;repeat' (with_reducible first|exact trivial|refine And.intro ?_ ?_))
    all_goals first|rfl|exact bf rfl _|(refine RowsRen.cast (b:=l.map (cnG 6 7 8) ++ [cnG 12 13 14 y.c]) (by rw [List.drop_zero,List.take_of_length_le (by simp)]) (RowsRen.castR (b:=l.map (cnG 2 3 4) ++ [y.c].map (cnG 2 3 4)) (by rw [List.map_append]) (RowsRen.app (aK rfl rfl rfl _) (RowsRen.one (fb rfl rfl rfl _)))))|trace_state
theorem gK (e:Int):ACallL Tryz.prog 12 [.val (.int .i64 e)] [.perm] (.val (.int .i64 e)) [.perm]:=by
 refine ACallL.of_ev af Tryz.func12 rfl (fun a w=>Tryz.call12 a w) (congrArg Array.toList Tryz.results12) Tryz.ntmps12 fun B hB=>?_
 ((conv=>whnf);(repeat' ((first|refine gT ?_|(with_reducible refine ab (fun _=>?_) (fun _=>?_)))<;>(conv=>whnf))))
 (refine qcv hB [] [(0,0)] [] ?_;repeat' (with_reducible first|exact trivial|refine And.intro ?_ ?_))
theorem xa:Ho.fresh ⟨[],0⟩ 7 (⟨5,1883,0,0,2,0,[]⟩:Sg)=⟨⟨[(Stp.c (ce 1 7 64000 (⟨5,1883,0,0,2,0,[]⟩:Sg)))],1⟩,[(7,⟨1883,5,64000,1,18,2048,[]⟩)],[]⟩:=by kernel_rfl
theorem mr:ACallL Tryz.prog 16 [] [.perm] (.val (.bool true)) [.perm]:=by
 have cT:=je [] 0 7 (⟨5,1883,0,0,2,0,[]⟩:Sg) ((aU _).1 (by decide +kernel)) (by decide) (by decide +kernel) rfl
 rw [xa] at cT
 obtain ⟨y,hy⟩ : ∃ y,Stp.c (ce 1 7 64000 (⟨5,1883,0,0,2,0,[]⟩:Sg))=y:=⟨_,rfl⟩
 rw [hy] at cT
 dsimp only [hoR,sgR,sgL,hsA,hsH,List.map_nil,List.map_cons] at cT
 refine ACallL.of_ev af Tryz.func16 rfl (fun a w=>Tryz.call16 a w) (congrArg Array.toList Tryz.results16) Tryz.ntmps16 fun B hB=>?_
 ((conv=>whnf);(repeat' ((first|refine gT ?_|(with_reducible refine ab (fun _=>?_) (fun _=>?_))|((with_reducible refine qcp (gK _) ?_);refine pT ?_)|(((with_reducible refine qco (cT) [] [(0,0)] [] [(1,1),(2,2),(3,3),(4,4),(5,5),(6,6),(7,7),(8,8)] [(1,.uniq),(2,.uniq),(3,.uniq),(4,.uniq),(5,.uniq),(6,.uniq),(7,.uniq),(8,.uniq)] (.tup [.agg [.glist 1 16 [cnG 2 3 4 y],.val (.int .i64 1)],.glist 5 8 [snG 6 (7,⟨1883,5,64000,1,18,2048,[]⟩)],.glist 7 3 [],.val (.int .i64 0)]) ?_);refine sT ?_)))<;>(conv=>whnf))))
 all_goals first|((refine qcv hB [] [(0,0)] [] ?_;repeat' (with_reducible first|exact trivial|refine And.intro ?_ ?_));all_goals rfl;done)|(exfalso;simp_all;done)
structure Act7 where
 dw:Int
 ip:Int
 link:Int
 n:Int
 s:Sg
 fit:Bool
 b:List Int
abbrev alL (d b:AV) (a:Act7):List AV:=[.val (.int .i64 a.dw),.val (.int .i64 a.ip),.val (.int .i64 a.link),.val (.int .i64 a.n),.val (.int .i64 a.s.sp),.val (.int .i64 a.s.dp),.val (.int .i64 a.s.seq),.val (.int .i64 a.s.ack),.val (.int .i64 a.s.fl),.val (.int .i64 a.s.win),d,.val (.bool a.fit),b]
abbrev alR (r:Nat) (a:Act7):List AV:=alL (bL r a.s.data) (bL r a.b) a
theorem pn (l:List Act7):PlRows (l.map (alR 0)):=by
 refine PlRows.mapF _ _ fun m _=>?_
 have pz:=al m.s.data
 have py:=al m.b
 intro x hx
 simp only [alR,alL,List.mem_cons,List.not_mem_nil,or_false] at hx
 rcases hx with rfl|rfl|rfl|rfl|rfl|rfl|rfl|rfl|rfl|rfl|rfl|rfl|rfl<;>first|exact .val _|exact .list _ _ pz|exact .list _ _ py
abbrev shR (h:Ho) (l:List Act7):List AV:=[.list 0 16 (h.conns.map (cnR 0)),.val (.int .i64 h.count),.list 0 13 (l.map (alR 0))]
def bgo:Int→List Act7→Int
 | n,[]=>n
 | n,a::l=>if n < 1048576 then bgo (n + a.s.data.length + a.b.length) l else n
theorem rL : ∀ (l:List Act7) (n:Int),0≤n→bgo n l≤30000→n≤30000 ∧ ∀ a∈l,a.s.data.length≤30000∧a.b.length≤30000
 | [],n,h0,h=>⟨by simpa [bgo] using h,by simp⟩
 | p::ps,n,h0,h=>by
   unfold bgo at h
   split at h
   ·obtain ⟨h1,h2⟩:=rL ps _ (by omega) h
    refine ⟨by omega,fun q hq=>?_⟩
    rcases List.mem_cons.1 hq with rfl|hq
    ·omega
    ·exact h2 q hq
   ·omega
theorem tq {l:List Act7} {k:Nat} {a:Act7} {n g:Int} (h:l[k]?=some a) (hn:n < 1048576) (hg:bgo n (l.drop k)=g):bgo (n + a.s.data.length + a.b.length) (l.drop (k + 1))=g:=by
 rw [bI h,bgo,if_pos hn] at hg;exact hg
theorem tN {l:List Act7} {k:Nat} {n g:Int} (hk:k < l.length) (hn : ¬ n < 1048576) (hg:bgo n (l.drop k)=g):n=g:=by
 rw [bI (List.getElem?_eq_getElem hk),bgo,if_neg hn] at hg;exact hg
def cgo:Int→List Cn→Int
 | n,[]=>n
 | n,c::l=>if n < 1048576 then cgo (n + cwt c) l else n
theorem rf (c:Cn):(c.out.length:Int)≤cwt c:=by
 have:=lj c.parts c.out.length
 unfold cwt;omega
theorem nA : ∀ (l:List Cn) (n:Int),n≤cgo n l
 | [],n=>Int.le_refl _
 | c::l,n=>by
   unfold cgo
   split
   ·have:=nA l (n + cwt c);have:=rf c;omega
   ·exact Int.le_refl _
theorem te : ∀ (l:List Cn) (n:Int),0≤n→cgo n l≤30000→n≤30000 ∧ ∀ c∈l,cwt c≤30000
 | [],n,h0,h=>⟨by simpa [cgo] using h,by simp⟩
 | c::l,n,h0,h=>by
   have g:=rf c
   unfold cgo at h
   split at h
   ·obtain ⟨h1,h2⟩:=te l _ (by omega) h
    refine ⟨by omega,fun q hq=>?_⟩
    rcases List.mem_cons.1 hq with rfl|hq
    ·omega
    ·exact h2 q hq
   ·omega
theorem tB {l:List Cn} {k:Nat} {c:Cn} {n g:Int} (h:l[k]?=some c) (hn:n < 1048576) (hg:cgo n (l.drop k)=g):cgo (n + cwt c) (l.drop (k + 1))=g:=by
 rw [bI h,cgo,if_pos hn] at hg;exact hg
theorem uR {l:List Cn} {k:Nat} {n g:Int} (hk:k < l.length) (hn : ¬ n < 1048576) (hg:cgo n (l.drop k)=g):n=g:=by
 rw [bI (List.getElem?_eq_getElem hk),cgo,if_neg hn] at hg;exact hg
def mP (h:Ho):Prop:=h.conns.length≤140737488351232 ∧ ∀ c∈h.conns,kD c
def jD (l:List Act7):Prop:=l.length≤140737488351232 ∧ ∀ a∈l,a.s.data.length≤140737488351232∧a.b.length≤140737488351232
def hv17 (h:Ho) (l:List Act7):Bool:=decide (30000 < bgo (cgo (h.conns.length * 10) h.conns) l) || decide (100 < (l.length:Int))
theorem wy {h:Ho} {l:List Act7} (hh:hv17 h l=false):h.conns.length≤3000∧(∀ c∈h.conns,aA c∧c.out.length≤30000)∧l.length≤100 ∧ ∀ a∈l,a.s.data.length≤30000∧a.b.length≤30000:=by
 simp only [hv17,Bool.or_eq_false_iff,decide_eq_false_iff_not] at hh
 have g1:=nA h.conns (h.conns.length * 10)
 obtain ⟨c1,d⟩:=rL l (cgo (h.conns.length * 10) h.conns) (by omega) (by omega)
 obtain ⟨c2,e⟩:=te h.conns (h.conns.length * 10) (by omega) c1
 refine ⟨by omega,fun c hc=>?_,by omega,d⟩
 have e1:=e c hc
 have g0:=lj c.parts c.out.length
 obtain ⟨a,b⟩:=rj c.parts c.out.length (by omega) (by unfold cwt at e1;omega)
 unfold cwt at e1
 exact ⟨⟨by omega,⟨by omega,fun p hp=>by have:=b p hp;omega⟩⟩,by omega⟩
theorem xn {c:Cn} (hc:kD c):0≤cwt c∧cwt c≤300000000000000:=by
 obtain ⟨h1,h2,h3⟩:=hc
 have g:=lj c.parts c.out.length
 refine ⟨by unfold cwt;omega,?_⟩
 have key : ∀ (ps:List Pt) (n:Int),(∀ p∈ps,p.2.length≤140737488351232)→n≤140737488351232→wgo n ps≤300000000000000:=by
  intro ps
  induction ps with
  | nil=>intro n _ h;simp only [wgo];omega
  | cons p ps ih =>
    intro n hp h
    unfold wgo
    split
    ·by_cases h4:n + 1 + p.2.length≤140737488351232
     ·exact ih _ (fun q hq=>hp q (List.mem_cons_of_mem _ hq)) h4
     ·have hp1:=hp p (List.mem_cons_self ..)
      cases ps with
      | nil=>simp only [wgo];omega
      | cons q qs=>rw [wgo,if_neg (by omega)];omega
    ·omega
 exact key c.parts _ h3 (by omega)
theorem rg (h:Ho) (l:List Act7) (hh:mP h) (hl:jD l):ACallL Tryz.prog 10 [.agg (shR h l)] [.perm] (.val (.bool (hv17 h l))) [.perm]:=by
 obtain ⟨cs,count⟩:=h
 obtain ⟨hh1,hh2⟩:=hh
 obtain ⟨hl1,hl2⟩:=hl
 dsimp only at hh1 hh2
 have px:=aQ cs
 have pz:=pn l
 have hlen:(l.map (alR 0)).length=l.length:=by simp
 have clen:(cs.map (cnR 0)).length=cs.length:=by simp
 unfold hv17
 dsimp only [shR]
 obtain ⟨G1,hG1⟩ : ∃ G,cgo (cs.length * 10) cs=G:=⟨_,rfl⟩
 have hG1b:cs.length * 10≤G1:=by rw [← hG1];exact nA _ _
 obtain ⟨G,hG⟩ : ∃ G,bgo G1 l=G:=⟨_,rfl⟩
 rw [hG1,hG]
 refine ACallL.of_AWs Tryz.func10 rfl (fun a w=>Tryz.call10 a w) (congrArg Array.toList Tryz.results10) Tryz.ntmps10 (by simp only [spine,List.cons_append,List.nil_append,List.append_assoc];rfl) fun B hB=>?_
 refine qAWs.cut af 4 (by simp only [List.take_succ_cons,List.take_zero];rfl) (by simp only [List.drop_succ_cons,List.drop_zero];rfl) (by simp only [aJ];rfl) rfl (X:=Unit) (fun _=>ap 69 [(1,.ptr 1 0 0),(3,.val (.int .i64 G1))]) (fun _=>[.perm,.live ⟨3,27,[[.list 0 16 (cs.map (cnR 0)),.val (.int .i64 count),.list 0 13 (l.map (alR 0))]]⟩]) (fun _=>G1≤1500000000000000) ?_ ?_
 ·((conv=>whnf);(repeat' ((first|refine gT ?_|(with_reducible refine ab (fun _=>?_) (fun _=>?_)))<;>(conv=>whnf))))
  refine qAW.loop af (X:=Nat × Int) (fun x=>ap 69 [(1,.ptr 1 0 0),(3,.val (.int .i64 x.2)),(4,.val (.int .i64 x.1))]) (fun x=>[.perm,.live ⟨3,27,[[.list 0 16 (cs.map (cnR 0)),.val (.int .i64 count),.list 0 13 (l.map (alR 0))]]⟩]) (fun x=>(x.1≤cs.length∧0≤x.2∧x.2≤1500000000000000)∧cgo x.2 (cs.drop x.1)=G1) (fun x=>cs.length - x.1) (0,(cs.length:Int) * 10) ⟨⟨Nat.zero_le _,by dsimp only;omega,by dsimp only;omega⟩,hG1⟩ ?_ ?_
  ·have w0:=IntWalk.i64_in ((cs.length:Int) * 10) (by omega)
   (refine qcv hB [(1,1)] [(0,0)] [] ?_;repeat' (with_reducible first|exact trivial|refine And.intro ?_ ?_))
   all_goals first|rfl|(rw [clen,w0];done)|(exact ao)|trace_state
  ·rintro ⟨k,v⟩ ⟨⟨hk,h02,h12⟩,hg2⟩
   dsimp only at hk h02 h12 hg2 ⊢
   have w:=IntWalk.i64_in (k + 1) (by omega)
   by_cases hlt:k < cs.length
   ·obtain ⟨c,hck⟩ : ∃ p,cs[k]?=some p:=⟨_,List.getElem?_eq_getElem hlt⟩
    have hcb:=hh2 c (List.mem_of_getElem? hck)
    have hrow:(cs.map (cnR 0))[(k:Int).toNat]?=some (cnR 0 c):=by simp [hck]
    have cW:=nP c hcb
    have hw:=xn hcb
    have p1:=al c.out
    have p2:=ar c.parts
    by_cases hv2:v < 1048576
    ·have hs2:=tB hck hv2 hg2
     obtain ⟨W0,hW0⟩ : ∃ r,cwt c=r:=⟨_,rfl⟩
     rw [hW0] at cW hw hs2
     have w1:=IntWalk.i64_in (v + W0) (by omega)
     dsimp only [cnR,cnL] at cW
     ((conv=>whnf);(repeat' ((first|refine gT ?_|((with_reducible refine ai ?_ ?_);focus (simp [hlt,hv2];done))|((with_reducible refine aj ?_ ?_);focus (simp [hlt,hv2];done))|(with_reducible refine ab (fun _=>?_) (fun _=>?_))|((with_reducible refine qcp (cW) ?_);refine pT ?_)|(refine ak (idxL rfl rfl rfl rfl rfl rfl (by omega) hrow) ?_))<;>(conv=>whnf))))
     refine ⟨(k + 1,v + W0),⟨⟨by dsimp only;omega,by dsimp only;omega,by dsimp only;omega⟩,hs2⟩,by dsimp only;omega,?_⟩
     (refine qcv hB [(1,1)] [(0,0)] [] ?_;repeat' (with_reducible first|exact trivial|refine And.intro ?_ ?_))
     all_goals first|rfl|(exact ao)|(simp [w];done)|(rw [w1];done)|trace_state
    ·have e:=uR hlt hv2 hg2
     subst e
     ((conv=>whnf);(repeat' ((first|refine gT ?_|((with_reducible refine ai ?_ ?_);focus (simp [hlt,hv2];done))|((with_reducible refine aj ?_ ?_);focus (simp [hlt,hv2];done))|(with_reducible refine ab (fun _=>?_) (fun _=>?_)))<;>(conv=>whnf))))
     all_goals (refine ⟨(),h12,?_⟩;(refine qcv hB [(1,1)] [(0,0)] [] ?_;repeat' (with_reducible first|exact trivial|refine And.intro ?_ ?_)))
     all_goals first|rfl|(exact ao)|trace_state
   ·have e2:k=cs.length:=by omega
    have e:v=G1:=by rw [e2,List.drop_length] at hg2;exact hg2
    subst e
    ((conv=>whnf);(repeat' ((first|refine gT ?_|((with_reducible refine ai ?_ ?_);focus (simp [hlt];done))|((with_reducible refine aj ?_ ?_);focus (simp [hlt];done))|(with_reducible refine ab (fun _=>?_) (fun _=>?_)))<;>(conv=>whnf))))
    all_goals (refine ⟨(),h12,?_⟩;(refine qcv hB [(1,1)] [(0,0)] [] ?_;repeat' (with_reducible first|exact trivial|refine And.intro ?_ ?_)))
    all_goals first|rfl|(exact ao)|trace_state
 rintro ⟨⟩ hb1
 (try dsimp only)
 refine qAWs.fin af (by simp only [aJ];rfl) ?_
 ((conv=>whnf);(repeat' ((first|refine gT ?_|(with_reducible refine ab (fun _=>?_) (fun _=>?_)))<;>(conv=>whnf))))
 refine qAW.loop af (X:=Nat × Int) (fun x=>ap 69 [(1,.ptr 1 0 0),(3,.val (.int .i64 x.2)),(5,.val (.int .i64 x.1))]) (fun x=>[.perm,.live ⟨3,27,[[.list 0 16 (cs.map (cnR 0)),.val (.int .i64 count),.list 0 13 (l.map (alR 0))]]⟩]) (fun x=>(x.1≤l.length∧0≤x.2∧x.2≤2000000000000000)∧bgo x.2 (l.drop x.1)=G) (fun x=>l.length - x.1) (0,G1) ⟨⟨Nat.zero_le _,by dsimp only;omega,by dsimp only;omega⟩,hG⟩ ?_ ?_
 ·(refine qcv hB [(1,1)] [(0,0)] [] ?_;repeat' (with_reducible first|exact trivial|refine And.intro ?_ ?_))
  all_goals first|rfl|(exact ao)|trace_state
 ·rintro ⟨k,v⟩ ⟨⟨hk,h02,h12⟩,hg2⟩
  dsimp only at hk h02 h12 hg2 ⊢
  have w:=IntWalk.i64_in (k + 1) (by omega)
  by_cases hlt:k < l.length
  ·obtain ⟨a,hxk2⟩ : ∃ p,l[k]?=some p:=⟨_,List.getElem?_eq_getElem hlt⟩
   have hx2:=hl2 _ (List.mem_of_getElem? hxk2)
   have hrow2:(l.map (alR 0))[(k:Int).toNat]?=some (alR 0 a):=by simp [hxk2]
   have lx2:(a.s.data.map bR).length=a.s.data.length:=by simp
   have ly2:(a.b.map bR).length=a.b.length:=by simp
   by_cases hv2:v < 1048576
   ·have w1:=IntWalk.i64_in (v + a.s.data.length) (by omega)
    have w2:=IntWalk.i64_in (v + a.s.data.length + a.b.length) (by omega)
    have hs2:=tq hxk2 hv2 hg2
    ((conv=>whnf);(repeat' ((first|refine gT ?_|((with_reducible refine ai ?_ ?_);focus (simp [hlt,hv2];done))|((with_reducible refine aj ?_ ?_);focus (simp [hlt,hv2];done))|(with_reducible refine ab (fun _=>?_) (fun _=>?_))|(refine ak (idxL rfl rfl rfl rfl rfl rfl (by omega) hrow2) ?_))<;>(conv=>whnf))))
    refine ⟨(k + 1,v + a.s.data.length + a.b.length),⟨⟨by dsimp only;omega,by dsimp only;omega,by dsimp only;omega⟩,hs2⟩,by dsimp only;omega,?_⟩
    (refine qcv hB [(1,1)] [(0,0)] [] ?_;repeat' (with_reducible first|exact trivial|refine And.intro ?_ ?_))
    all_goals first|rfl|(exact ao)|(simp [w];done)|(rw [lx2,ly2,w1,w2];done)|trace_state
   ·have e:=tN hlt hv2 hg2
    ((conv=>whnf);(repeat' ((first|refine gT ?_|((with_reducible refine ai ?_ ?_);focus (simp [hlt,hv2];done))|((with_reducible refine aj ?_ ?_);focus (simp [hlt,hv2];done))|(with_reducible refine ab (fun _=>?_) (fun _=>?_)))<;>(conv=>whnf))))
    all_goals (refine qcv hB [] [(0,0)] [] ?_;repeat' (with_reducible first|exact trivial|refine And.intro ?_ ?_))
    all_goals (rw [← e];rename_i hz;simp only [decide_eq_true_eq,decide_eq_false_iff_not] at hz;simp [hz])
  ·have e2:k=l.length:=by omega
   have e:v=G:=by rw [e2,List.drop_length] at hg2;exact hg2
   ((conv=>whnf);(repeat' ((first|refine gT ?_|((with_reducible refine ai ?_ ?_);focus (simp [hlt];done))|((with_reducible refine aj ?_ ?_);focus (simp [hlt];done))|(with_reducible refine ab (fun _=>?_) (fun _=>?_)))<;>(conv=>whnf))))
   all_goals (refine qcv hB [] [(0,0)] [] ?_;repeat' (with_reducible first|exact trivial|refine And.intro ?_ ?_))
   all_goals (rw [← e];rename_i hz;simp only [decide_eq_true_eq,decide_eq_false_iff_not] at hz;simp [hz])
theorem jM:Tryz.prog.cellsOf 41=13:=by kernel_rfl
theorem mV:Tryz.prog.cellsOf 25=1:=by kernel_rfl
theorem qu:Tryz.prog.bytesOf 41=136:=by kernel_rfl
theorem oQ:Tryz.prog.cellsOf 22=1:=by kernel_rfl
theorem rP:Tryz.prog.bytesOf 50=160:=by kernel_rfl
theorem kE:Tryz.prog.cellsOf 24=2:=by kernel_rfl
theorem lw:Tryz.prog.cellsOf 27=3:=by kernel_rfl
theorem tt {q:Nat} {avs:List AV} (h:TyZV Tryz.prog (q + 7) 22 avs) : ∃ l:List Cn,avs=[.list 0 16 (l.map (cnR 0))]∧l.length≤140737488351232 ∧ ∀ c∈l,kD c:=by
 unfold TyZV at h
 rw [Tryz.underlying22] at h
 obtain ⟨rows,e,_,hz,hr⟩:=h
 obtain ⟨xs,rfl,hx⟩:=eS (f:=cnR 0) (fun row (h:_∧_)=>vW (q:=q) h.2) rows hr
 rw [rP,List.length_map] at hz
 exact ⟨xs,by rw [e,kY],by have:=iD;omega,hx⟩
theorem vJ {q:Nat} {avs:List AV} (h:TyZV Tryz.prog (q + 8) 24 avs) : ∃ g:Ho,avs=[.list 0 16 (g.conns.map (cnR 0)),.val (.int .i64 g.count)]∧mP g:=by
 unfold TyZV at h
 rw [Tryz.underlying24] at h
 obtain ⟨hl,hx⟩:=h
 rw [kE] at hl
 match avs,hl with
 | [c0,c1],_ =>
   simp only [List.forall_mem_cons,dO,oQ,List.drop,List.take] at hx
   obtain ⟨h0,h1, -⟩:=hx
   obtain ⟨l,e0,b0,b1⟩:=tt (q:=q) h0
   obtain ⟨n,e1, -⟩:=bu h1
   simp only [List.cons.injEq,and_true] at e0 e1
   subst e0 e1
   exact ⟨⟨l,n⟩,rfl,b0,b1⟩
theorem ui {q:Nat} {avs:List AV} (h:TyZV Tryz.prog (q + 4) 41 avs) : ∃ a:Act7,avs=alR 0 a∧a.s.data.length≤140737488351232∧a.b.length≤140737488351232:=by
 unfold TyZV at h
 rw [Tryz.underlying41] at h
 obtain ⟨hl,hx⟩:=h
 rw [jM] at hl
 match avs,hl with
 | [c0,c1,c2,c3,c4,c5,c6,c7,c8,c9,c10,c11,c12],_ =>
   simp only [List.forall_mem_cons,iu,dO,fh,me,List.drop,List.take] at hx
   obtain ⟨h0,h1,h2,h2', h3,h4,h5, -⟩:=hx
   obtain ⟨i0,e0, -⟩:=bu h0
   obtain ⟨i1,e1, -⟩:=bu h1
   obtain ⟨i2,e2, -⟩:=bu h2
   obtain ⟨i3,e2', -⟩:=bu h2'
   obtain ⟨m,e3,b3⟩:=xv h3
   obtain ⟨f,e4⟩:=lN h4
   obtain ⟨o,e5,b5⟩:=iC h5
   simp only [List.cons.injEq,and_true] at e0 e1 e2 e2' e3 e4 e5
   obtain ⟨e3,f3,g3,k3,l3,m3,n3⟩:=e3
   subst e0 e1 e2 e2' e3 f3 g3 k3 l3 m3 n3 e4 e5
   exact ⟨⟨i0,i1,i2,i3,m,f,o⟩,rfl,b3,b5.1⟩
theorem sI {q:Nat} {avs:List AV} (h:TyZV Tryz.prog (q + 5) 25 avs) : ∃ l:List Act7,avs=[.list 0 13 (l.map (alR 0))]∧jD l:=by
 unfold TyZV at h
 rw [Tryz.underlying25] at h
 obtain ⟨rows,e,_,hz,hr⟩:=h
 obtain ⟨xs,rfl,hx⟩:=eS (f:=alR 0) (fun row (h:_∧_)=>ui (q:=q) h.2) rows hr
 rw [qu,List.length_map] at hz
 exact ⟨xs,by rw [e,jM],by have:=iD;omega,hx⟩
theorem oS {avs:List AV} (h:TyZV Tryz.prog 10 27 avs) : ∃ (g:Ho) (l:List Act7),avs=shR g l∧mP g∧jD l:=by
 unfold TyZV at h
 rw [Tryz.underlying27] at h
 obtain ⟨hl,hx⟩:=h
 rw [lw] at hl
 match avs,hl with
 | [c0,c1,c2],_ =>
   simp only [List.forall_mem_cons,kE,mV,List.drop,List.take] at hx
   obtain ⟨h0,h1, -⟩:=hx
   obtain ⟨g,e0,b0⟩:=vJ (q:=1) h0
   obtain ⟨l,e1,b1⟩:=sI (q:=4) h1
   simp only [List.cons.injEq,and_true] at e0 e1
   obtain ⟨e0,f0⟩:=e0
   subst e0 f0 e1
   exact ⟨g,l,rfl,b0,b1⟩
def fitC (c:Cn) (a:Act7):Sg :=
 bif a.n.tmod 4 == 0 then { a.s with sp:=c.pp,dp:=c.port }
 else { a.s with sp:=c.pp,dp:=c.port,seq:=c.inx,ack:=wadd c.una ([0,ah c.nx c.una].getD (bc a.n 2).toNat 0),fl:=bits .or .i64 a.s.fl 16 }
def fit7 (h:Ho) (a:Act7):Int × Sg :=
 bif a.fit && !h.conns.isEmpty then ((h.conns.getD (bc a.link h.conns.length).toNat cnZ).ip,fitC (h.conns.getD (bc a.link h.conns.length).toNat cnZ) a) else (a.ip,a.s)
theorem l6 (h:Ho) (a:Act7):(fit7 h a).2.data=a.s.data:=by
 unfold fit7 fitC
 cases a.fit && !h.conns.isEmpty<;>cases a.n.tmod 4 == 0<;>rfl
theorem er {p:Prop} (h:p:=by first|((first|rfl|exact aH _|(refine RowsRen.one ?_;(repeat (refine Cells.cons ?_ ?_;focus (first|exact .val _|exact Ren.gg rfl _|fail)));exact Cells.nil));done)|fail):p:=h
theorem pW (h:Ho) (a:Act7) (hl:h.conns.length≤100000) (hc : ∀ c∈h.conns,aA c) (ha:a.s.data.length≤30000):ACallL Tryz.prog 32 [.agg (hoR h),.agg (alR 0 a)] [.perm] (.tup [.val (.int .i64 (fit7 h a).1),.agg (sgG 1 (fit7 h a).2)]) [.perm,.uniq]:=by
 obtain ⟨cs,count⟩:=h
 dsimp only at hl hc
 have px:=aQ cs
 have pz:=al a.s.data
 have pb:=al a.b
 have cC:=iO a.s (by omega)
 have clen:(cs.map (cnR 0)).length=cs.length:=by simp
 unfold fit7
 dsimp only [hoR,alR,alL,sgR,sgG,sgL] at cC ⊢
 cases hf:a.fit with
 | false =>
   refine ACallL.of_ev af Tryz.func32 rfl (fun a w=>Tryz.call32 a w) (congrArg Array.toList Tryz.results32) Tryz.ntmps32 fun B hB=>?_
   ((conv=>whnf);(repeat' ((first|refine gT ?_|(with_reducible refine ab (fun _=>?_) (fun _=>?_))|(((with_reducible refine qco (cC) [] [(0,0)] [] [(1,4)] [(4,.uniq)] (.agg (sgG 4 a.s)) ?_);refine sT ?_)))<;>(conv=>whnf))))
   all_goals ((refine qcv hB [] [(0,0),(4,1)] [] ?_;repeat' (with_reducible first|exact trivial|refine And.intro ?_ ?_)))
   all_goals (try exact er)
 | true =>
   cases cs with
   | nil =>
     refine ACallL.of_ev af Tryz.func32 rfl (fun a w=>Tryz.call32 a w) (congrArg Array.toList Tryz.results32) Tryz.ntmps32 fun B hB=>?_
     ((conv=>whnf);(repeat' ((first|refine gT ?_|(with_reducible refine ab (fun _=>?_) (fun _=>?_))|(((with_reducible refine qco (cC) [] [(0,0)] [] [(1,4)] [(4,.uniq)] (.agg (sgG 4 a.s)) ?_);refine sT ?_)))<;>(conv=>whnf))))
     all_goals ((refine qcv hB [] [(0,0),(4,1)] [] ?_;repeat' (with_reducible first|exact trivial|refine And.intro ?_ ?_)))
     all_goals (try exact er)
   | cons c0 cs0 =>
     obtain ⟨cs,hcs⟩ : ∃ r,c0::cs0=r:=⟨_,rfl⟩
     have h0:0 < cs.length:=by rw [← hcs];simp
     have hem:cs.isEmpty=false:=by rw [← hcs];rfl
     rw [hcs] at hl hc px clen ⊢
     have hne:(((cs.map (cnR 0)).length:Int) == 0)=false:=by rw [clen];exact beq_eq_false_iff_ne.2 (by omega)
     rw [hem]
     have cB:=jr a.link cs.length (by omega) (by omega)
     have bb:=eU a.link cs.length (by omega)
     obtain ⟨j,hj⟩ : ∃ j:Nat,bc a.link cs.length=j:=⟨(bc a.link cs.length).toNat,by omega⟩
     rw [hj] at cB bb ⊢
     have hjl:j < cs.length:=by omega
     obtain ⟨c,hck⟩ : ∃ p,cs[j]?=some p:=⟨_,List.getElem?_eq_getElem hjl⟩
     have hg:cs.getD (j:Int).toNat cnZ=c:=by simp [List.getD,hck]
     rw [hg]
     have hrow:(cs.map (cnR 0))[(j:Int).toNat]?=some (cnR 0 c):=by simp [hck]
     have p1:=al c.out
     have p2:=ar c.parts
     rw [← clen] at cB
     unfold fitC
     simp only [Bool.not_false,Bool.and_true,cond_true]
     cases hn:(a.n.tmod 4 == 0) with
     | true =>
       have hn2:(a.n.tmod 4 != 0)=false:=by rw [bne,hn];rfl
       rw [cond_true]
       refine ACallL.of_ev af Tryz.func32 rfl (fun a w=>Tryz.call32 a w) (congrArg Array.toList Tryz.results32) Tryz.ntmps32 fun B hB=>?_
       ((conv=>whnf);(repeat' ((first|refine gT ?_|((with_reducible refine ai ?_ ?_);focus (simp [hjl];done))|((with_reducible refine aj ?_ ?_);focus (simp [hjl];done))|(with_reducible refine ab (fun _=>?_) (fun _=>?_))|(((with_reducible refine qco (cC) [] [(0,0)] [] [(1,4)] [(4,.uniq)] (.agg (sgG 4 a.s)) ?_);refine sT ?_))|((with_reducible refine qcp (cB) ?_);refine pT ?_)|(refine ak (remN rfl rfl rfl (by decide)) ?_)|(refine ak (idxL rfl rfl rfl rfl rfl rfl (by omega) hrow) ?_))<;>(conv=>whnf))))
       all_goals ((refine qcv hB [] [(0,0),(4,1)] [] ?_;repeat' (with_reducible first|exact trivial|refine And.intro ?_ ?_)))
       all_goals (try exact er)
     | false =>
       have hn2:(a.n.tmod 4 != 0)=true:=by rw [bne,hn];rfl
       rw [cond_false]
       have b2:=eU a.n 2 (by decide)
       have c2:=jr a.n 2 (by decide) (by decide)
       obtain ⟨j2,h2⟩ : ∃ j:Nat,bc a.n 2=j:=⟨(bc a.n 2).toNat,by omega⟩
       rw [h2] at c2 b2 ⊢
       have e2:0 + (j2:Int).toNat=j2:=by omega
       have r2:([0,ah c.nx c.una]:List Int)[j2]?=some (([0,ah c.nx c.una]:List Int).getD (j2:Int).toNat 0):=by
        have:j2=0∨j2=1:=by omega
        rcases this with rfl|rfl<;>rfl
       obtain ⟨v2,hv2⟩ : ∃ r,([0,ah c.nx c.una]:List Int).getD (j2:Int).toNat 0=r:=⟨_,rfl⟩
       rw [hv2] at r2 ⊢
       have s2:(([0,ah c.nx c.una]:List Int).map iR)[j2]?=some (iR v2):=by rw [List.getElem?_map,r2];rfl
       simp only [List.map_cons,List.map_nil,iR] at s2
       refine ACallL.of_ev af Tryz.func32 rfl (fun a w=>Tryz.call32 a w) (congrArg Array.toList Tryz.results32) Tryz.ntmps32 fun B hB=>?_
       ((conv=>whnf);(repeat' ((first|refine gT ?_|((with_reducible refine ai ?_ ?_);focus (simp [hjl];done))|((with_reducible refine aj ?_ ?_);focus (simp [hjl];done))|(with_reducible refine ab (fun _=>?_) (fun _=>?_))|(((with_reducible refine qco (cC) [] [(0,0)] [] [(1,4)] [(4,.uniq)] (.agg (sgG 4 a.s)) ?_);refine sT ?_))|((with_reducible refine qcp (cB) ?_);refine pT ?_)|((with_reducible refine qcp (c2) ?_);refine pT ?_)|((with_reducible refine qcp (gn _ _) ?_);refine pT ?_)|((with_reducible refine qcp (bO _ _) ?_);refine pT ?_)|(refine ak (remN rfl rfl rfl (by decide)) ?_)|(refine ak (idxL rfl rfl rfl rfl rfl rfl (by omega) hrow) ?_)|(refine ak (idxS rfl rfl rfl rfl rfl rfl rfl rfl (by omega)) ?_)|(refine ak (ldR' rfl rfl rfl rfl rfl (by with_reducible exact e2) s2 rfl) ?_))<;>(conv=>whnf))))
       all_goals ((refine qcv hB [] [(0,0),(4,1)] [] ?_;repeat' (with_reducible first|exact trivial|refine And.intro ?_ ?_)))
       all_goals (try exact er)
abbrev cnP (o p d:Nat) (c:Cn):List AV:=cnL (bL o c.out) (.list p 2 (c.parts.map (prt d))) c
section
variable {L I F:Prs} {h:Hp} {o p d o' p' d' r:Nat}
theorem qN (h0:I.has o o' = true) (h1:I.has p p' = true) (h2:I.has d d' = true) (c:Cn):Cells (qOf L I F) h (cnP o p d c) (cnP o' p' d' c) :=
 .cons (.val _) (.cons (.val _) (.cons (.val _) (.cons (.val _) (.cons (.val _) (.cons (.val _) (.cons (.val _) (.cons (.val _) (.cons (Ren.ll h0 c.out) (.cons (.val _) (.cons (Ren.pll h1 h2 c.parts) (.cons (.val _) (.cons (.val _) (.cons (.val _) (.cons (.val _) (.cons (.val _) .nil)))))))))))))))
theorem xW (h0:I.has o o' = true) (h1:I.has p p' = true) (h2:I.has d d' = true) (c:Cn):Cells (qOf L I F) h (cnG o p d c) (cnP o' p' d' c) :=
 .cons (.val _) (.cons (.val _) (.cons (.val _) (.cons (.val _) (.cons (.val _) (.cons (.val _) (.cons (.val _) (.cons (.val _) (.cons (Ren.g2 h0 c.out) (.cons (.val _) (.cons (Ren.pg2 h1 h2 c.parts) (.cons (.val _) (.cons (.val _) (.cons (.val _) (.cons (.val _) (.cons (.val _) .nil)))))))))))))))
theorem aC (h0:I.has o o' = true) (h1:I.has p p' = true) (h2:I.has d d' = true) (l:List Cn):RowsRen (qOf L I F) h (l.map (cnP o p d)) (l.map (cnP o' p' d')):=RowsRen.mapF l _ _ fun c _=>qN h0 h1 h2 c
theorem aS (h0:I.has o o' = true) (h1:I.has p p' = true) (h2:I.has d d' = true) (l:List Cn):RowsRen (qOf L I F) h (l.map (cnG o p d)) (l.map (cnP o' p' d')):=RowsRen.mapF l _ _ fun c _=>xW h0 h1 h2 c
theorem ws {o2 p2 d2:Nat} (h0:I.has o o' = true) (h1:I.has p p' = true) (h2:I.has d d' = true) (g0:I.has o2 o' = true) (g1:I.has p2 p' = true) (g2:I.has d2 d' = true) (l:List Cn) (c:Cn) :
 RowsRen (qOf L I F) h (l.map (cnG o p d) ++ [cnG o2 p2 d2 c]) ((l ++ [c]).map (cnG o' p' d')) :=
 RowsRen.castR (by rw [List.map_append]) (RowsRen.app (aK h0 h1 h2 l) (aK g0 g1 g2 [c]))
end
theorem gx (l:List Cn) (hl:l.length≤100000) (hc : ∀ c∈l,aA c):ACallL Tryz.prog 18 [.list 0 16 (l.map (cnR 0))] [.perm] (.glist 1 16 (l.map (cnG 2 3 4))) [.perm,.uniq,.uniq,.uniq,.uniq]:=by
 have ll:(l.map (cnR 0)).length=l.length:=by simp
 have px:=aQ l
 refine ACallL.of_ev af Tryz.func18 rfl (fun a w=>Tryz.call18 a w) (congrArg Array.toList Tryz.results18) Tryz.ntmps18 fun B hB=>?_
 ((conv=>whnf);(repeat' ((first|refine gT ?_|(with_reducible refine ab (fun _=>?_) (fun _=>?_)))<;>(conv=>whnf))))
 refine qAW.loopE af (X:=Nat) (fun k=>ap 20 [(0,.list 0 16 (l.map (cnR 0))),(3,.glist 1 16 ((l.take k).map (cnG 2 3 4))),(4,.val (.int .i64 k))]) (fun k=>[.perm,.uniq,.uniq,.uniq,.uniq])
  (fun k=>k≤l.length) (fun k=>l.length - k) 0 (Nat.zero_le _) ?_ ?_
 ·(refine qcv hB [] [(0,0)] [] ?_;repeat' (with_reducible first|exact trivial|refine And.intro ?_ ?_))
  all_goals first|rfl|(exact ao)
 ·rintro E k hk hE
  by_cases hlt:k < l.length
  ·obtain ⟨c,hck⟩ : ∃ p,l[k]?=some p:=⟨_,List.getElem?_eq_getElem hlt⟩
   have hrow:(l.map (cnR 0))[(k:Int).toNat]?=some (cnR 0 c):=by simp [hck]
   have p1:=al c.out
   have p2:=ar c.parts
   have w:=IntWalk.i64_in (k + 1) (by omega)
   have cC:=ii c (hc c (List.mem_of_getElem? hck))
   have hsz:((l.take k).map (cnG 2 3 4)).length + 1≤100001:=by simp;omega
   dsimp only [cnR,cnL] at cC
   subst hE
   ((conv=>whnf);(repeat' ((first|refine gT ?_|((with_reducible refine ai ?_ ?_);focus (simp [hlt];done))|((with_reducible refine aj ?_ ?_);focus (simp [hlt];done))|(with_reducible refine ab (fun _=>?_) (fun _=>?_))|(refine ak (idxL rfl rfl rfl rfl rfl rfl (by omega) hrow) ?_)|(((with_reducible refine qco (cC) [] [(0,0)] [] [(1,5),(2,6),(3,7)] [(5,.uniq),(6,.uniq),(7,.uniq)] (.agg (cnG 5 6 7 c)) ?_);refine sT ?_))|(refine ak (apG (nb:=160) rfl rfl rfl rfl rfl rfl rfl rfl rfl rfl ⟨Nat.zero_lt_succ _,Nat.zero_lt_succ _,rfl⟩ rfl (Nat.le_trans (Nat.mul_le_mul_right _ hsz) (by decide))) ?_))<;>(conv=>whnf))))
   refine ⟨k + 1,by omega,by omega,?_⟩
   (refine qcv hB [] [(0,0),(9,1),(2,2),(5,2),(3,3),(6,3),(4,4),(7,4)] [] ?_;repeat' (with_reducible first|exact trivial|refine And.intro ?_ ?_))
   all_goals first|rfl|(simp [w];done)|(rw [bj hck];exact ws rfl rfl rfl rfl rfl rfl _ _)|(exact ao)|trace_state
  ·have e:l.take k=l:=List.take_of_length_le (by omega)
   rw [e]
   subst hE
   ((conv=>whnf);(repeat' ((first|refine gT ?_|((with_reducible refine ai ?_ ?_);focus (simp [hlt];done))|((with_reducible refine aj ?_ ?_);focus (simp [hlt];done))|(with_reducible refine ab (fun _=>?_) (fun _=>?_)))<;>(conv=>whnf))))
   (refine qcv hB [] [(0,0),(1,1),(2,2),(3,3),(4,4)] [] ?_;repeat' (with_reducible first|exact trivial|refine And.intro ?_ ?_))
   all_goals first|rfl|exact aK rfl rfl rfl _|trace_state
theorem ci (h:Ho) (hl:h.conns.length≤100000) (hc : ∀ c∈h.conns,aA c):ACallL Tryz.prog 11 [.agg (hoR h)] [.perm] (.agg [.glist 1 16 (h.conns.map (cnG 2 3 4)),.val (.int .i64 h.count)]) [.perm,.uniq,.uniq,.uniq,.uniq]:=by
 have px:=aQ h.conns
 have cC:=gx h.conns hl hc
 dsimp only [hoR]
 refine ACallL.of_ev af Tryz.func11 rfl (fun a w=>Tryz.call11 a w) (congrArg Array.toList Tryz.results11) Tryz.ntmps11 fun B hB=>?_
 ((conv=>whnf);(repeat' ((first|refine gT ?_|((with_reducible refine ai ?_ ?_);focus (simp;done))|((with_reducible refine aj ?_ ?_);focus (simp;done))|(with_reducible refine ab (fun _=>?_) (fun _=>?_))|(((with_reducible refine qco (cC) [] [(0,0)] [] [(1,4),(2,5),(3,6),(4,7)] [(4,.uniq),(5,.uniq),(6,.uniq),(7,.uniq)] (.glist 4 16 (h.conns.map (cnG 5 6 7))) ?_);refine sT ?_)))<;>(conv=>whnf))))
 (refine qcv hB [] [(0,0),(4,1),(5,2),(6,3),(7,4)] [] ?_;repeat' (with_reducible first|exact trivial|refine And.intro ?_ ?_))
 all_goals first|rfl|exact aK rfl rfl rfl _|trace_state
theorem sf (l:List Cn) (hl:l.length≤100000) (hc : ∀ c∈l,aA c):ACallL Tryz.prog 79 [.list 0 16 (l.map (cnR 0)),.list 0 16 (l.map (cnR 0))] [.perm] (.val (.bool true)) [.perm]:=by
 have ll:(l.map (cnR 0)).length=l.length:=by simp
 have px:=aQ l
 refine ACallL.of_ev af Tryz.func79 rfl (fun a w=>Tryz.call79 a w) (congrArg Array.toList Tryz.results79) Tryz.ntmps79 fun B hB=>?_
 ((conv=>whnf);(repeat' ((first|refine gT ?_|((with_reducible refine ai ?_ ?_);focus (simp;done))|((with_reducible refine aj ?_ ?_);focus (simp;done))|(with_reducible refine ab (fun _=>?_) (fun _=>?_)))<;>(conv=>whnf))))
 refine qAW.loopE af (X:=Nat) (fun k=>ap 27 [(0,.list 0 16 (l.map (cnR 0))),(1,.list 0 16 (l.map (cnR 0))),(5,.val (.int .i64 k))]) (fun k=>[.perm])
  (fun k=>k≤l.length) (fun k=>l.length - k) 0 (Nat.zero_le _) ?_ ?_
 ·(refine qcv hB [] [(0,0)] [] ?_;repeat' (with_reducible first|exact trivial|refine And.intro ?_ ?_))
  all_goals rfl
 ·rintro E k hk hE
  by_cases hlt:k < l.length
  ·obtain ⟨c,hck⟩ : ∃ p,l[k]?=some p:=⟨_,List.getElem?_eq_getElem hlt⟩
   have hrow:(l.map (cnR 0))[(k:Int).toNat]?=some (cnR 0 c):=by simp [hck]
   have p1:=al c.out
   have p2:=ar c.parts
   have w:=IntWalk.i64_in (k + 1) (by omega)
   have cE:=t7 c c (hc c (List.mem_of_getElem? hck))
   rw [decide_eq_true (rfl:c=c)] at cE
   dsimp only [cnR,cnL] at cE
   subst hE
   ((conv=>whnf);(repeat' ((first|refine gT ?_|((with_reducible refine ai ?_ ?_);focus (simp [hlt];done))|((with_reducible refine aj ?_ ?_);focus (simp [hlt];done))|(with_reducible refine ab (fun _=>?_) (fun _=>?_))|((with_reducible refine qcp (cE) ?_);refine pT ?_)|(refine ak (idxL rfl rfl rfl rfl rfl rfl (by omega) hrow) ?_))<;>(conv=>whnf))))
   refine ⟨k + 1,by omega,by omega,?_⟩
   (refine qcv hB [] [(0,0)] [] ?_;repeat' (with_reducible first|exact trivial|refine And.intro ?_ ?_))
   all_goals first|rfl|(simp [w];done)
  ·subst hE
   ((conv=>whnf);(repeat' ((first|refine gT ?_|((with_reducible refine ai ?_ ?_);focus (simp [hlt];done))|((with_reducible refine aj ?_ ?_);focus (simp [hlt];done))|(with_reducible refine ab (fun _=>?_) (fun _=>?_)))<;>(conv=>whnf))))
   (refine qcv hB [] [(0,0)] [] ?_;repeat' (with_reducible first|exact trivial|refine And.intro ?_ ?_))
theorem kq (h:Ho) (hl:h.conns.length≤100000) (hc : ∀ c∈h.conns,aA c):ACallL Tryz.prog 39 [.agg (hoR h),.agg (hoR h)] [.perm] (.val (.bool true)) [.perm]:=by
 have px:=aQ h.conns
 have cE:=sf h.conns hl hc
 dsimp only [hoR]
 refine ACallL.of_ev af Tryz.func39 rfl (fun a w=>Tryz.call39 a w) (congrArg Array.toList Tryz.results39) Tryz.ntmps39 fun B hB=>?_
 ((conv=>whnf);(repeat' ((first|refine gT ?_|((with_reducible refine ai ?_ ?_);focus (simp;done))|((with_reducible refine aj ?_ ?_);focus (simp;done))|(with_reducible refine ab (fun _=>?_) (fun _=>?_))|((with_reducible refine qcp (cE) ?_);refine pT ?_))<;>(conv=>whnf))))
 all_goals (refine qcv hB [] [(0,0)] [] ?_;repeat' (with_reducible first|exact trivial|refine And.intro ?_ ?_))
theorem xF (l:List (Int × Sg)):PlRows (l.map (snR 0)):=PlRows.mapF l (snR 0) fun p _=>by
 have:=al p.2.data
 exact plT
theorem xo (l:List Hd):PlRows (l.map (hdR 0)):=PlRows.mapF l (hdR 0) fun p _=>by
 have:=al p.data
 exact plT
theorem qG (l:List Hd) (hl:l.length≤100000) (hc : ∀ x∈l,x.data.length≤100000000):ACallL Tryz.prog 41 [.list 0 3 (l.map (hdR 0)),.list 0 3 (l.map (hdR 0))] [.perm] (.val (.bool true)) [.perm]:=by
 have ll:(l.map (hdR 0)).length=l.length:=by simp
 have px:=xo l
 have cH : ∀ x:Hd,x.data.length≤100000000→ACallL Tryz.prog 80 [.agg (hdR 0 x),.agg (hdR 0 x)] [.perm] (.val (.bool true)) [.perm]:=fun x hx=>by
  obtain ⟨a,xs,f⟩:=x
  have cB:=gm xs xs hx
  have p1:=al xs
  dsimp only [hdR]
  refine ACallL.of_ev af Tryz.func80 rfl (fun a w=>Tryz.call80 a w) (congrArg Array.toList Tryz.results80) Tryz.ntmps80 fun B hB=>?_
  ((conv=>whnf);(repeat' ((first|refine gT ?_|((with_reducible refine ai ?_ ?_);focus (simp;done))|((with_reducible refine aj ?_ ?_);focus (simp;done))|(with_reducible refine ab (fun _=>?_) (fun _=>?_))|((with_reducible refine qcp (cB) ?_);refine pT ?_)|(refine qOpen.eqb mK rfl rfl rfl ?_))<;>(conv=>whnf))))
  all_goals (refine qcv hB [] [(0,0)] [] ?_;repeat' (with_reducible first|exact trivial|refine And.intro ?_ ?_))
  all_goals simp
 refine ACallL.of_ev af Tryz.func41 rfl (fun a w=>Tryz.call41 a w) (congrArg Array.toList Tryz.results41) Tryz.ntmps41 fun B hB=>?_
 ((conv=>whnf);(repeat' ((first|refine gT ?_|((with_reducible refine ai ?_ ?_);focus (simp;done))|((with_reducible refine aj ?_ ?_);focus (simp;done))|(with_reducible refine ab (fun _=>?_) (fun _=>?_)))<;>(conv=>whnf))))
 refine qAW.loopE af (X:=Nat) (fun k=>ap 27 [(0,.list 0 3 (l.map (hdR 0))),(1,.list 0 3 (l.map (hdR 0))),(5,.val (.int .i64 k))]) (fun k=>[.perm])
  (fun k=>k≤l.length) (fun k=>l.length - k) 0 (Nat.zero_le _) ?_ ?_
 ·(refine qcv hB [] [(0,0)] [] ?_;repeat' (with_reducible first|exact trivial|refine And.intro ?_ ?_))
  all_goals rfl
 ·rintro E k hk hE
  by_cases hlt:k < l.length
  ·obtain ⟨x,hck⟩ : ∃ p,l[k]?=some p:=⟨_,List.getElem?_eq_getElem hlt⟩
   have hrow:(l.map (hdR 0))[(k:Int).toNat]?=some (hdR 0 x):=by simp [hck]
   have p1:=al x.data
   have w:=IntWalk.i64_in (k + 1) (by omega)
   have cE:=cH x (hc x (List.mem_of_getElem? hck))
   dsimp only [hdR] at cE
   subst hE
   ((conv=>whnf);(repeat' ((first|refine gT ?_|((with_reducible refine ai ?_ ?_);focus (simp [hlt];done))|((with_reducible refine aj ?_ ?_);focus (simp [hlt];done))|(with_reducible refine ab (fun _=>?_) (fun _=>?_))|((with_reducible refine qcp (cE) ?_);refine pT ?_)|(refine ak (idxL rfl rfl rfl rfl rfl rfl (by omega) hrow) ?_))<;>(conv=>whnf))))
   refine ⟨k + 1,by omega,by omega,?_⟩
   (refine qcv hB [] [(0,0)] [] ?_;repeat' (with_reducible first|exact trivial|refine And.intro ?_ ?_))
   all_goals first|rfl|(simp [w];done)
  ·subst hE
   ((conv=>whnf);(repeat' ((first|refine gT ?_|((with_reducible refine ai ?_ ?_);focus (simp [hlt];done))|((with_reducible refine aj ?_ ?_);focus (simp [hlt];done))|(with_reducible refine ab (fun _=>?_) (fun _=>?_)))<;>(conv=>whnf))))
   (refine qcv hB [] [(0,0)] [] ?_;repeat' (with_reducible first|exact trivial|refine And.intro ?_ ?_))
theorem xL (l:List (Int × Sg)) (hl:l.length≤1000000) (hc : ∀ x∈l,x.2.data.length≤100000000):ACallL Tryz.prog 40 [.list 0 8 (l.map (snR 0)),.list 0 8 (l.map (snR 0))] [.perm] (.val (.bool true)) [.perm]:=by
 have ll:(l.map (snR 0)).length=l.length:=by simp
 have px:=xF l
 refine ACallL.of_ev af Tryz.func40 rfl (fun a w=>Tryz.call40 a w) (congrArg Array.toList Tryz.results40) Tryz.ntmps40 fun B hB=>?_
 ((conv=>whnf);(repeat' ((first|refine gT ?_|((with_reducible refine ai ?_ ?_);focus (simp;done))|((with_reducible refine aj ?_ ?_);focus (simp;done))|(with_reducible refine ab (fun _=>?_) (fun _=>?_)))<;>(conv=>whnf))))
 refine qAW.loopE af (X:=Nat) (fun k=>ap 42 [(0,.list 0 8 (l.map (snR 0))),(1,.list 0 8 (l.map (snR 0))),(5,.val (.int .i64 k))]) (fun k=>[.perm])
  (fun k=>k≤l.length) (fun k=>l.length - k) 0 (Nat.zero_le _) ?_ ?_
 ·(refine qcv hB [] [(0,0)] [] ?_;repeat' (with_reducible first|exact trivial|refine And.intro ?_ ?_))
  all_goals rfl
 ·rintro E k hk hE
  by_cases hlt:k < l.length
  ·obtain ⟨⟨ip,m⟩,hck⟩ : ∃ p,l[k]?=some p:=⟨_,List.getElem?_eq_getElem hlt⟩
   have hrow:(l.map (snR 0))[(k:Int).toNat]?=some (snR 0 (ip,m)):=by simp [hck]
   have p1:=al m.data
   have w:=IntWalk.i64_in (k + 1) (by omega)
   have cE:=lC m m (hc _ (List.mem_of_getElem? hck))
   rw [decide_eq_true (rfl:m=m)] at cE
   dsimp only [snR,sgR,sgL] at cE hrow
   subst hE
   ((conv=>whnf);(repeat' ((first|refine gT ?_|((with_reducible refine ai ?_ ?_);focus (simp [hlt];done))|((with_reducible refine aj ?_ ?_);focus (simp [hlt];done))|(with_reducible refine ab (fun _=>?_) (fun _=>?_))|((with_reducible refine qcp (cE) ?_);refine pT ?_)|(refine ak (idxL rfl rfl rfl rfl rfl rfl (by omega) hrow) ?_))<;>(conv=>whnf))))
   refine ⟨k + 1,by omega,by omega,?_⟩
   (refine qcv hB [] [(0,0)] [] ?_;repeat' (with_reducible first|exact trivial|refine And.intro ?_ ?_))
   all_goals first|rfl|(simp [w];done)
  ·subst hE
   ((conv=>whnf);(repeat' ((first|refine gT ?_|((with_reducible refine ai ?_ ?_);focus (simp [hlt];done))|((with_reducible refine aj ?_ ?_);focus (simp [hlt];done))|(with_reducible refine ab (fun _=>?_) (fun _=>?_)))<;>(conv=>whnf))))
   (refine qcv hB [] [(0,0)] [] ?_;repeat' (with_reducible first|exact trivial|refine And.intro ?_ ?_))
end Go.Proofs.YtceohcbokbalhaaGreat
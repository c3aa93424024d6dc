/- Contracts and plain laws, one behind the other: AhTcpD, AhTcpJ, AhTcpK, AhTcpO, AhTcpQ, TcpL3. Conditions are said at each. -/
import Derived.Test.YtceohcbokbalhaaGreatPkAF
import Derived.Test.YtceohcbokbalhaaGreatPkAE
namespace Go.Proofs.YtceohcbokbalhaaGreat
open Go.RowKit
set_option linter.unusedVariables false
set_option linter.unusedSimpArgs false
set_option maxRecDepth 100000
set_option maxHeartbeats 4000000
theorem aO {p:Prop} (h:p:=by first|((first|rfl|(refine RowsRen.one ?_;(repeat (refine Cells.cons ?_ ?_;focus (first|exact .val _|exact Ren.gg rfl _|exact Ren.ll rfl _|exact Ren.g2 rfl _|exact Ren.oo rfl _ _|exact Ren.vnil _ _|exact Ren.vgnil _ _|exact Ren.sgs rfl rfl _|exact Ren.sgs1 rfl rfl rfl rfl|exact Ren.pgl rfl rfl _|fail)));exact Cells.nil)|exact bq rfl _|exact aI rfl _|exact aH _);done)|fail):p:=h
theorem se (x:Stp) (hP:PumpOk x.c) (hs:x.out.length≤100000) :
 ACallL Tryz.prog 94 [.ptr 1 0 0] [.perm,spO (spR true 6 7 x),.perm,.perm,.perm,.perm,.uniq,.uniq]
  (.tup []) [.perm,spO (spR true 8 9 x.pump),.perm,.perm,.perm,.perm,.dead,.dead,.uniq,.uniq]:=by
 dsimp only [spR,spL,oL]
 refine ACallL.of_ev af Tryz.func94 rfl (fun a w=>Tryz.call94 a w) (congrArg Array.toList Tryz.results94) Tryz.ntmps94 fun B hB=>?_
 ((conv=>whnf);(repeat' ((first|refine gT ?_|(with_reducible refine ab (fun _=>?_) (fun _=>?_)))<;>(conv=>whnf))))
 refine qAW.scopeL af rfl (X:=Stp) (fun y=>ap 145 [(0,.ptr 1 0 0)]) (fun y=>[.perm,spO (spR true 8 9 y),.perm,.perm,.perm,.perm,.dead,.dead,.uniq,.uniq])
  (fun y=>PumpOk y.c∧y.out.length + (y.c.len - y.c.sent)≤x.out.length + 8192∧pumpGo y.c.out.length y=pumpGo x.c.out.length x) (fun y=>(y.c.len - y.c.sent).toNat) ?_ ?_
 ·((conv=>whnf);(repeat' ((first|refine gT ?_|(with_reducible refine ab (fun _=>?_) (fun _=>?_)))<;>(conv=>whnf))))
  refine ⟨x,⟨hP,by have:=hP.s0;have:=hP.len;unfold Cn.len;omega,rfl⟩,?_⟩
  (refine qcv hB [(1,1)] [(0,0),(2,2),(3,3),(4,4),(5,5),(6,8),(7,9)] [] ?_;repeat' (with_reducible first|exact trivial|refine And.intro ?_ ?_))
  all_goals (try exact aO)
 ·rintro E y ⟨hy,hb,hg⟩ hE
  have h0:=hy.s0
  have h1:=hy.s1
  have h2:=hy.len
  have h3:=hy.win
  have lo:(y.c.out.map bR).length=y.c.out.length:=by simp
  unfold Cn.sent at h0 h1
  have w1:=IntWalk.i64_in ((y.c.out.length:Int) - ah y.c.nx y.c.una) (by omega)
  have w2:=IntWalk.i64_in (y.c.win - ah y.c.nx y.c.una) (by omega)
  dsimp only [spR,spL,oL]
  by_cases hn:0 < y.c.pumpN
  ·obtain ⟨a,ha⟩ : ∃ a:Nat,ah y.c.nx y.c.una=a:=⟨(ah y.c.nx y.c.una).toNat,by omega⟩
   obtain ⟨N,hN⟩ : ∃ N:Nat,y.c.pumpN=N:=⟨y.c.pumpN.toNat,by omega⟩
   have hle:=eD hy
   have h1' := eC hy hn
   have h2' := dZ hy hn
   have hgs:=gw hy hn
   have hM:min (min 536 (IntKind.i64.wrap (((y.c.out.map bR).length:Int) - ah y.c.nx y.c.una))) (IntKind.i64.wrap (y.c.win - ah y.c.nx y.c.una))=N:=by rw [lo,w1,w2, ← hN];unfold Cn.pumpN Cn.len Cn.sent;omega
   have hcond:decide (0 < min (min 536 (IntKind.i64.wrap (((y.c.out.map bR).length:Int) - ah y.c.nx y.c.una))) (IntKind.i64.wrap (y.c.win - ah y.c.nx y.c.una)))=true:=by rw [hM];simp;omega
   have hsn:y.c.sent=a:=ha
   have w3:IntKind.i64.wrap (ah y.c.nx y.c.una + min (min 536 (IntKind.i64.wrap (((y.c.out.map bR).length:Int) - ah y.c.nx y.c.una))) (IntKind.i64.wrap (y.c.win - ah y.c.nx y.c.una)))=a + N:=by rw [hM,ha];exact IntWalk.i64_in _ (by omega)
   obtain ⟨data,hda⟩ : ∃ d,(y.c.out.drop a).take N=d:=⟨_,rfl⟩
   have cS:=em true y y.c.nx 24 data (by rw [← hda];simp;omega) (by unfold Cn.len at hb;omega)
   have hcb:0≤(some (ah y.c.nx y.c.una)).getD 0∧(some (ah y.c.nx y.c.una)).getD 0≤(some (IntKind.i64.wrap (ah y.c.nx y.c.una + min (min 536 (IntKind.i64.wrap (((y.c.out.map bR).length:Int) - ah y.c.nx y.c.una))) (IntKind.i64.wrap (y.c.win - ah y.c.nx y.c.una))))).getD ((y.c.out.map bR).length:Int)∧(some (IntKind.i64.wrap (ah y.c.nx y.c.una + min (min 536 (IntKind.i64.wrap (((y.c.out.map bR).length:Int) - ah y.c.nx y.c.una))) (IntKind.i64.wrap (y.c.win - ah y.c.nx y.c.una))))).getD ((y.c.out.map bR).length:Int)≤(none:Option Int).getD ((y.c.out.map bR).length:Int)∧(none:Option Int).getD ((y.c.out.map bR).length:Int)≤((y.c.out.map bR).length:Int)∧((none:Option Int)=none∨(some (IntKind.i64.wrap (ah y.c.nx y.c.una + min (min 536 (IntKind.i64.wrap (((y.c.out.map bR).length:Int) - ah y.c.nx y.c.una))) (IntKind.i64.wrap (y.c.win - ah y.c.nx y.c.una)))))≠none):=by
    simp only [Option.getD_some,Option.getD_none]
    rw [w3,ha,lo]
    exact ⟨by omega,by omega,by omega,by omega,.inl trivial⟩
   have hsl:((y.c.out.map bR).drop ((some (ah y.c.nx y.c.una)).getD 0).toNat).take ((some (IntKind.i64.wrap (ah y.c.nx y.c.una + min (min 536 (IntKind.i64.wrap (((y.c.out.map bR).length:Int) - ah y.c.nx y.c.una))) (IntKind.i64.wrap (y.c.win - ah y.c.nx y.c.una))))).getD ((y.c.out.map bR).length:Int) - (some (ah y.c.nx y.c.una)).getD 0).toNat=data.map bR:=by
    simp only [Option.getD_some]
    rw [w3,ha, ← hda,List.map_take,List.map_drop,show ((a:Int) + N - a).toNat=N by omega,Int.toNat_natCast]
   subst hE
   ((conv=>whnf);(repeat' ((first|refine gT ?_|((with_reducible refine ai ?_ ?_);focus (simp [lo,w1,w2];done))|((with_reducible refine aj ?_ ?_);focus (simp [lo,w1,w2];done))|(with_reducible refine ab (fun _=>?_) (fun _=>?_))|(refine qCall.sent rfl ?_)|(refine ak (slG' rfl rfl rfl rfl rfl rfl rfl rfl hcb hsl) ?_))<;>(conv=>whnf))))
   ((with_reducible refine qco (cS) [(1,1)] [(0,0),(2,2),(3,3),(4,4),(5,5),(6,8),(7,9)] [] [(8,10),(9,11)] [(1,spO (spR true 10 11 (y.seg y.c.nx 24 data))),(8,.dead),(9,.dead),(10,.uniq),(11,.uniq)] (.tup []) ?_);refine sT ?_)
   ((conv=>whnf);(repeat' ((first|refine gT ?_|(with_reducible refine ab (fun _=>?_) (fun _=>?_))|((with_reducible refine qcp (an _ _) ?_);refine pT ?_))<;>(conv=>whnf))))
   have hp1:y.pump1 = { c := { y.c with nx:=wadd y.c.nx N }, out:=y.out ++ [⟨y.c.port,y.c.pp,y.c.nx,y.c.inx,24,2048,data⟩],told:=y.told }:=by
    unfold Stp.pump1;rw [hN,hsn,Int.toNat_natCast,Int.toNat_natCast,hda]
   refine ⟨y.pump1,⟨h1', ?_,?_⟩,?_,?_⟩
   ·rw [h2']
    have e1:y.pump1.c.len=y.c.len:=rfl
    have e2:y.pump1.out.length=y.out.length + 1:=by rw [hp1];simp
    rw [e1,e2];omega
   ·rw [← hgs];exact hg
   ·rw [h2']
    have e1:y.pump1.c.len=y.c.len:=rfl
    have e3:y.c.len=y.c.out.length:=rfl
    rw [e1];omega
   ·rw [hp1,hM]
    (refine qcv hB [(1,1)] [(0,0),(2,2),(3,3),(4,4),(5,5),(10,8),(11,9)] [] ?_;repeat' (with_reducible first|exact trivial|refine And.intro ?_ ?_))
    all_goals (try exact aO)
  ·have hxe:pumpGo x.c.out.length x=y:=by rw [← hg];exact gZ (by omega) _
   have hM:min (min 536 (IntKind.i64.wrap (((y.c.out.map bR).length:Int) - ah y.c.nx y.c.una))) (IntKind.i64.wrap (y.c.win - ah y.c.nx y.c.una))=y.c.pumpN:=by rw [lo,w1,w2];unfold Cn.pumpN Cn.len Cn.sent;omega
   have hcond:decide (0 < min (min 536 (IntKind.i64.wrap (((y.c.out.map bR).length:Int) - ah y.c.nx y.c.una))) (IntKind.i64.wrap (y.c.win - ah y.c.nx y.c.una)))=false:=by rw [hM];simp;omega
   have hx0:x.pump=y.pump2.pump3:=by unfold Stp.pump;rw [hxe]
   subst hE
   rcases (Bool.eq_false_or_eq_true y.c.closing).symm with hcl|hcl
   ·have hx:x.pump=y.pump3:=by rw [hx0];unfold Stp.pump2;rw [if_neg (by rw [hcl];simp)]
    rcases (Bool.eq_false_or_eq_true y.c.tm.on).symm with ho|ho
    ·cases hp:decide (0 < ah y.c.nx y.c.una)
     ·cases hq:decide (ah y.c.nx y.c.una < ((y.c.out.map bR).length:Int))
      ·have hz:x.pump=y:=by
        rw [hx];unfold Stp.pump3;rw [if_neg]
        rw [decide_eq_false_iff_not] at hp hq
        rw [lo] at hq
        rintro ⟨_,h|h⟩
        ·exact hp h
        ·exact hq h
       rw [hz]
       ((conv=>whnf);(repeat' ((first|refine gT ?_|((with_reducible refine ai ?_ ?_);focus (simp [lo];done))|((with_reducible refine aj ?_ ?_);focus (simp [lo];done))|(with_reducible refine ab (fun _=>?_) (fun _=>?_))|(refine qCall.sent rfl ?_)|((with_reducible refine qcp (an _ _) ?_);refine pT ?_)|((with_reducible refine qcp (aF _) ?_);refine pT ?_))<;>(conv=>whnf))))
       (refine qcv hB [(1,1)] [(0,0),(2,2),(3,3),(4,4),(5,5),(8,8),(9,9)] [] ?_;repeat' (with_reducible first|exact trivial|refine And.intro ?_ ?_))
       all_goals (try exact aO)
      ·have hz:x.pump = { y with c := { (y).c with tm:=ba 3 } }:=by
        rw [hx];unfold Stp.pump3;rw [if_pos]
        rw [decide_eq_true_eq,lo] at hq
        exact ⟨ho,.inr hq⟩
       rw [hz]
       ((conv=>whnf);(repeat' ((first|refine gT ?_|((with_reducible refine ai ?_ ?_);focus (simp [lo];done))|((with_reducible refine aj ?_ ?_);focus (simp [lo];done))|(with_reducible refine ab (fun _=>?_) (fun _=>?_))|(refine qCall.sent rfl ?_)|((with_reducible refine qcp (an _ _) ?_);refine pT ?_)|((with_reducible refine qcp (aF _) ?_);refine pT ?_))<;>(conv=>whnf))))
       (refine qcv hB [(1,1)] [(0,0),(2,2),(3,3),(4,4),(5,5),(8,8),(9,9)] [] ?_;repeat' (with_reducible first|exact trivial|refine And.intro ?_ ?_))
       all_goals (try exact aO)
     ·have hz:x.pump = { y with c := { (y).c with tm:=ba 3 } }:=by
       rw [hx];unfold Stp.pump3;rw [if_pos]
       rw [decide_eq_true_eq] at hp
       exact ⟨ho,.inl hp⟩
      rw [hz]
      ((conv=>whnf);(repeat' ((first|refine gT ?_|((with_reducible refine ai ?_ ?_);focus (simp [lo];done))|((with_reducible refine aj ?_ ?_);focus (simp [lo];done))|(with_reducible refine ab (fun _=>?_) (fun _=>?_))|(refine qCall.sent rfl ?_)|((with_reducible refine qcp (an _ _) ?_);refine pT ?_)|((with_reducible refine qcp (aF _) ?_);refine pT ?_))<;>(conv=>whnf))))
      (refine qcv hB [(1,1)] [(0,0),(2,2),(3,3),(4,4),(5,5),(8,8),(9,9)] [] ?_;repeat' (with_reducible first|exact trivial|refine And.intro ?_ ?_))
      all_goals (try exact aO)
    ·have hz:x.pump=y:=by
      rw [hx];unfold Stp.pump3;rw [if_neg]
      rintro ⟨h,_⟩
      exact absurd (ho.symm.trans h) (by simp)
     rw [hz]
     ((conv=>whnf);(repeat' ((first|refine gT ?_|((with_reducible refine ai ?_ ?_);focus (simp [lo];done))|((with_reducible refine aj ?_ ?_);focus (simp [lo];done))|(with_reducible refine ab (fun _=>?_) (fun _=>?_))|(refine qCall.sent rfl ?_)|((with_reducible refine qcp (an _ _) ?_);refine pT ?_)|((with_reducible refine qcp (aF _) ?_);refine pT ?_))<;>(conv=>whnf))))
     (refine qcv hB [(1,1)] [(0,0),(2,2),(3,3),(4,4),(5,5),(8,8),(9,9)] [] ?_;repeat' (with_reducible first|exact trivial|refine And.intro ?_ ?_))
     all_goals (try exact aO)
   ·cases hse:(ah y.c.nx y.c.una == ((y.c.out.map bR).length:Int))
    ·have hx:x.pump=y.pump3:=by
      rw [hx0];unfold Stp.pump2;rw [if_neg]
      rintro ⟨_,h⟩
      rw [beq_eq_false_iff_ne,lo] at hse
      exact hse h
     rcases (Bool.eq_false_or_eq_true y.c.tm.on).symm with ho|ho
     ·cases hp:decide (0 < ah y.c.nx y.c.una)
      ·cases hq:decide (ah y.c.nx y.c.una < ((y.c.out.map bR).length:Int))
       ·have hz:x.pump=y:=by
         rw [hx];unfold Stp.pump3;rw [if_neg]
         rw [decide_eq_false_iff_not] at hp hq
         rw [lo] at hq
         rintro ⟨_,h|h⟩
         ·exact hp h
         ·exact hq h
        rw [hz]
        ((conv=>whnf);(repeat' ((first|refine gT ?_|((with_reducible refine ai ?_ ?_);focus (simp [lo];done))|((with_reducible refine aj ?_ ?_);focus (simp [lo];done))|(with_reducible refine ab (fun _=>?_) (fun _=>?_))|(refine qCall.sent rfl ?_)|((with_reducible refine qcp (an _ _) ?_);refine pT ?_)|((with_reducible refine qcp (aF _) ?_);refine pT ?_))<;>(conv=>whnf))))
        (refine qcv hB [(1,1)] [(0,0),(2,2),(3,3),(4,4),(5,5),(8,8),(9,9)] [] ?_;repeat' (with_reducible first|exact trivial|refine And.intro ?_ ?_))
        all_goals (try exact aO)
       ·have hz:x.pump = { y with c := { (y).c with tm:=ba 3 } }:=by
         rw [hx];unfold Stp.pump3;rw [if_pos]
         rw [decide_eq_true_eq,lo] at hq
         exact ⟨ho,.inr hq⟩
        rw [hz]
        ((conv=>whnf);(repeat' ((first|refine gT ?_|((with_reducible refine ai ?_ ?_);focus (simp [lo];done))|((with_reducible refine aj ?_ ?_);focus (simp [lo];done))|(with_reducible refine ab (fun _=>?_) (fun _=>?_))|(refine qCall.sent rfl ?_)|((with_reducible refine qcp (an _ _) ?_);refine pT ?_)|((with_reducible refine qcp (aF _) ?_);refine pT ?_))<;>(conv=>whnf))))
        (refine qcv hB [(1,1)] [(0,0),(2,2),(3,3),(4,4),(5,5),(8,8),(9,9)] [] ?_;repeat' (with_reducible first|exact trivial|refine And.intro ?_ ?_))
        all_goals (try exact aO)
      ·have hz:x.pump = { y with c := { (y).c with tm:=ba 3 } }:=by
        rw [hx];unfold Stp.pump3;rw [if_pos]
        rw [decide_eq_true_eq] at hp
        exact ⟨ho,.inl hp⟩
       rw [hz]
       ((conv=>whnf);(repeat' ((first|refine gT ?_|((with_reducible refine ai ?_ ?_);focus (simp [lo];done))|((with_reducible refine aj ?_ ?_);focus (simp [lo];done))|(with_reducible refine ab (fun _=>?_) (fun _=>?_))|(refine qCall.sent rfl ?_)|((with_reducible refine qcp (an _ _) ?_);refine pT ?_)|((with_reducible refine qcp (aF _) ?_);refine pT ?_))<;>(conv=>whnf))))
       (refine qcv hB [(1,1)] [(0,0),(2,2),(3,3),(4,4),(5,5),(8,8),(9,9)] [] ?_;repeat' (with_reducible first|exact trivial|refine And.intro ?_ ?_))
       all_goals (try exact aO)
     ·have hz:x.pump=y:=by
       rw [hx];unfold Stp.pump3;rw [if_neg]
       rintro ⟨h,_⟩
       exact absurd (ho.symm.trans h) (by simp)
      rw [hz]
      ((conv=>whnf);(repeat' ((first|refine gT ?_|((with_reducible refine ai ?_ ?_);focus (simp [lo];done))|((with_reducible refine aj ?_ ?_);focus (simp [lo];done))|(with_reducible refine ab (fun _=>?_) (fun _=>?_))|(refine qCall.sent rfl ?_)|((with_reducible refine qcp (an _ _) ?_);refine pT ?_)|((with_reducible refine qcp (aF _) ?_);refine pT ?_))<;>(conv=>whnf))))
      (refine qcv hB [(1,1)] [(0,0),(2,2),(3,3),(4,4),(5,5),(8,8),(9,9)] [] ?_;repeat' (with_reducible first|exact trivial|refine And.intro ?_ ?_))
      all_goals (try exact aO)
    ·have hse2:y.c.closing=true∧y.c.sent=y.c.len:=⟨hcl,by rw [beq_iff_eq,lo] at hse;exact hse⟩
     have cS:=em true y y.c.nx 17 [] (by simp) (by have:=hse2.2;unfold Cn.len at *; omega)
     cases hst:(y.c.st == 2)
     ·have hx:x.pump=(({ c := { y.c with nx:=wadd y.c.nx 1,st:=7 }, out:=y.out ++ [⟨y.c.port,y.c.pp,y.c.nx,y.c.inx,17,2048,[]⟩],told:=y.told } : Stp)).pump3:=by
       rw [hx0];unfold Stp.pump2;rw [if_pos hse2,if_neg (by simpa using hst)]
      rcases (Bool.eq_false_or_eq_true y.c.tm.on).symm with ho|ho
      ·cases hp:decide (0 < ah (wadd y.c.nx 1) y.c.una)
       ·cases hq:decide (ah (wadd y.c.nx 1) y.c.una < ((y.c.out.map bR).length:Int))
        ·have hz:x.pump=({ c := { y.c with nx:=wadd y.c.nx 1,st:=7 }, out:=y.out ++ [⟨y.c.port,y.c.pp,y.c.nx,y.c.inx,17,2048,[]⟩],told:=y.told } : Stp):=by
          rw [hx];unfold Stp.pump3;rw [if_neg]
          rw [decide_eq_false_iff_not] at hp hq
          rw [lo] at hq
          rintro ⟨_,h|h⟩
          ·exact hp h
          ·exact hq h
         rw [hz]
         ((conv=>whnf);(repeat' ((first|refine gT ?_|((with_reducible refine ai ?_ ?_);focus (simp [lo];done))|((with_reducible refine aj ?_ ?_);focus (simp [lo];done))|(with_reducible refine ab (fun _=>?_) (fun _=>?_))|(refine qCall.sent rfl ?_)|((with_reducible refine qcp (an _ _) ?_);refine pT ?_)|((with_reducible refine qcp (aF _) ?_);refine pT ?_))<;>(conv=>whnf))))
         ((with_reducible refine qco (cS) [(1,1)] [(0,0),(2,2),(3,3),(4,4),(5,5),(6,8),(7,9)] [] [(8,10),(9,11)] [(1,spO (spY true 10 11 y (y.out ++ [⟨y.c.port,y.c.pp,y.c.nx,y.c.inx,17,2048,[]⟩]))),(8,.dead),(9,.dead),(10,.uniq),(11,.uniq)] (.tup []) ?_);refine sT ?_)
         ((conv=>whnf);(repeat' ((first|refine gT ?_|((with_reducible refine ai ?_ ?_);focus (simp [lo];done))|((with_reducible refine aj ?_ ?_);focus (simp [lo];done))|(with_reducible refine ab (fun _=>?_) (fun _=>?_))|(refine qCall.sent rfl ?_)|((with_reducible refine qcp (an _ _) ?_);refine pT ?_)|((with_reducible refine qcp (aF _) ?_);refine pT ?_))<;>(conv=>whnf))))
         (refine qcv hB [(1,1)] [(0,0),(2,2),(3,3),(4,4),(5,5),(10,8),(11,9)] [] ?_;repeat' (with_reducible first|exact trivial|refine And.intro ?_ ?_))
         all_goals (try exact aO)
        ·have hz:x.pump = { ({ c := { y.c with nx:=wadd y.c.nx 1,st:=7 }, out:=y.out ++ [⟨y.c.port,y.c.pp,y.c.nx,y.c.inx,17,2048,[]⟩],told:=y.told } : Stp) with c := { (({ c := { y.c with nx:=wadd y.c.nx 1,st:=7 }, out:=y.out ++ [⟨y.c.port,y.c.pp,y.c.nx,y.c.inx,17,2048,[]⟩],told:=y.told } : Stp)).c with tm:=ba 3 } }:=by
          rw [hx];unfold Stp.pump3;rw [if_pos]
          rw [decide_eq_true_eq,lo] at hq
          exact ⟨ho,.inr hq⟩
         rw [hz]
         ((conv=>whnf);(repeat' ((first|refine gT ?_|((with_reducible refine ai ?_ ?_);focus (simp [lo];done))|((with_reducible refine aj ?_ ?_);focus (simp [lo];done))|(with_reducible refine ab (fun _=>?_) (fun _=>?_))|(refine qCall.sent rfl ?_)|((with_reducible refine qcp (an _ _) ?_);refine pT ?_)|((with_reducible refine qcp (aF _) ?_);refine pT ?_))<;>(conv=>whnf))))
         ((with_reducible refine qco (cS) [(1,1)] [(0,0),(2,2),(3,3),(4,4),(5,5),(6,8),(7,9)] [] [(8,10),(9,11)] [(1,spO (spY true 10 11 y (y.out ++ [⟨y.c.port,y.c.pp,y.c.nx,y.c.inx,17,2048,[]⟩]))),(8,.dead),(9,.dead),(10,.uniq),(11,.uniq)] (.tup []) ?_);refine sT ?_)
         ((conv=>whnf);(repeat' ((first|refine gT ?_|((with_reducible refine ai ?_ ?_);focus (simp [lo];done))|((with_reducible refine aj ?_ ?_);focus (simp [lo];done))|(with_reducible refine ab (fun _=>?_) (fun _=>?_))|(refine qCall.sent rfl ?_)|((with_reducible refine qcp (an _ _) ?_);refine pT ?_)|((with_reducible refine qcp (aF _) ?_);refine pT ?_))<;>(conv=>whnf))))
         (refine qcv hB [(1,1)] [(0,0),(2,2),(3,3),(4,4),(5,5),(10,8),(11,9)] [] ?_;repeat' (with_reducible first|exact trivial|refine And.intro ?_ ?_))
         all_goals (try exact aO)
       ·have hz:x.pump = { ({ c := { y.c with nx:=wadd y.c.nx 1,st:=7 }, out:=y.out ++ [⟨y.c.port,y.c.pp,y.c.nx,y.c.inx,17,2048,[]⟩],told:=y.told } : Stp) with c := { (({ c := { y.c with nx:=wadd y.c.nx 1,st:=7 }, out:=y.out ++ [⟨y.c.port,y.c.pp,y.c.nx,y.c.inx,17,2048,[]⟩],told:=y.told } : Stp)).c with tm:=ba 3 } }:=by
         rw [hx];unfold Stp.pump3;rw [if_pos]
         rw [decide_eq_true_eq] at hp
         exact ⟨ho,.inl hp⟩
        rw [hz]
        ((conv=>whnf);(repeat' ((first|refine gT ?_|((with_reducible refine ai ?_ ?_);focus (simp [lo];done))|((with_reducible refine aj ?_ ?_);focus (simp [lo];done))|(with_reducible refine ab (fun _=>?_) (fun _=>?_))|(refine qCall.sent rfl ?_)|((with_reducible refine qcp (an _ _) ?_);refine pT ?_)|((with_reducible refine qcp (aF _) ?_);refine pT ?_))<;>(conv=>whnf))))
        ((with_reducible refine qco (cS) [(1,1)] [(0,0),(2,2),(3,3),(4,4),(5,5),(6,8),(7,9)] [] [(8,10),(9,11)] [(1,spO (spY true 10 11 y (y.out ++ [⟨y.c.port,y.c.pp,y.c.nx,y.c.inx,17,2048,[]⟩]))),(8,.dead),(9,.dead),(10,.uniq),(11,.uniq)] (.tup []) ?_);refine sT ?_)
        ((conv=>whnf);(repeat' ((first|refine gT ?_|((with_reducible refine ai ?_ ?_);focus (simp [lo];done))|((with_reducible refine aj ?_ ?_);focus (simp [lo];done))|(with_reducible refine ab (fun _=>?_) (fun _=>?_))|(refine qCall.sent rfl ?_)|((with_reducible refine qcp (an _ _) ?_);refine pT ?_)|((with_reducible refine qcp (aF _) ?_);refine pT ?_))<;>(conv=>whnf))))
        (refine qcv hB [(1,1)] [(0,0),(2,2),(3,3),(4,4),(5,5),(10,8),(11,9)] [] ?_;repeat' (with_reducible first|exact trivial|refine And.intro ?_ ?_))
        all_goals (try exact aO)
      ·have hz:x.pump=({ c := { y.c with nx:=wadd y.c.nx 1,st:=7 }, out:=y.out ++ [⟨y.c.port,y.c.pp,y.c.nx,y.c.inx,17,2048,[]⟩],told:=y.told } : Stp):=by
        rw [hx];unfold Stp.pump3;rw [if_neg]
        rintro ⟨h,_⟩
        exact absurd (ho.symm.trans h) (by simp)
       rw [hz]
       ((conv=>whnf);(repeat' ((first|refine gT ?_|((with_reducible refine ai ?_ ?_);focus (simp [lo];done))|((with_reducible refine aj ?_ ?_);focus (simp [lo];done))|(with_reducible refine ab (fun _=>?_) (fun _=>?_))|(refine qCall.sent rfl ?_)|((with_reducible refine qcp (an _ _) ?_);refine pT ?_)|((with_reducible refine qcp (aF _) ?_);refine pT ?_))<;>(conv=>whnf))))
       ((with_reducible refine qco (cS) [(1,1)] [(0,0),(2,2),(3,3),(4,4),(5,5),(6,8),(7,9)] [] [(8,10),(9,11)] [(1,spO (spY true 10 11 y (y.out ++ [⟨y.c.port,y.c.pp,y.c.nx,y.c.inx,17,2048,[]⟩]))),(8,.dead),(9,.dead),(10,.uniq),(11,.uniq)] (.tup []) ?_);refine sT ?_)
       ((conv=>whnf);(repeat' ((first|refine gT ?_|((with_reducible refine ai ?_ ?_);focus (simp [lo];done))|((with_reducible refine aj ?_ ?_);focus (simp [lo];done))|(with_reducible refine ab (fun _=>?_) (fun _=>?_))|(refine qCall.sent rfl ?_)|((with_reducible refine qcp (an _ _) ?_);refine pT ?_)|((with_reducible refine qcp (aF _) ?_);refine pT ?_))<;>(conv=>whnf))))
       (refine qcv hB [(1,1)] [(0,0),(2,2),(3,3),(4,4),(5,5),(10,8),(11,9)] [] ?_;repeat' (with_reducible first|exact trivial|refine And.intro ?_ ?_))
       all_goals (try exact aO)
     ·have hx:x.pump=(({ c := { y.c with nx:=wadd y.c.nx 1,st:=3 }, out:=y.out ++ [⟨y.c.port,y.c.pp,y.c.nx,y.c.inx,17,2048,[]⟩],told:=y.told } : Stp)).pump3:=by
       rw [hx0];unfold Stp.pump2;rw [if_pos hse2,if_pos (by simpa using hst)]
      rcases (Bool.eq_false_or_eq_true y.c.tm.on).symm with ho|ho
      ·cases hp:decide (0 < ah (wadd y.c.nx 1) y.c.una)
       ·cases hq:decide (ah (wadd y.c.nx 1) y.c.una < ((y.c.out.map bR).length:Int))
        ·have hz:x.pump=({ c := { y.c with nx:=wadd y.c.nx 1,st:=3 }, out:=y.out ++ [⟨y.c.port,y.c.pp,y.c.nx,y.c.inx,17,2048,[]⟩],told:=y.told } : Stp):=by
          rw [hx];unfold Stp.pump3;rw [if_neg]
          rw [decide_eq_false_iff_not] at hp hq
          rw [lo] at hq
          rintro ⟨_,h|h⟩
          ·exact hp h
          ·exact hq h
         rw [hz]
         ((conv=>whnf);(repeat' ((first|refine gT ?_|((with_reducible refine ai ?_ ?_);focus (simp [lo];done))|((with_reducible refine aj ?_ ?_);focus (simp [lo];done))|(with_reducible refine ab (fun _=>?_) (fun _=>?_))|(refine qCall.sent rfl ?_)|((with_reducible refine qcp (an _ _) ?_);refine pT ?_)|((with_reducible refine qcp (aF _) ?_);refine pT ?_))<;>(conv=>whnf))))
         ((with_reducible refine qco (cS) [(1,1)] [(0,0),(2,2),(3,3),(4,4),(5,5),(6,8),(7,9)] [] [(8,10),(9,11)] [(1,spO (spY true 10 11 y (y.out ++ [⟨y.c.port,y.c.pp,y.c.nx,y.c.inx,17,2048,[]⟩]))),(8,.dead),(9,.dead),(10,.uniq),(11,.uniq)] (.tup []) ?_);refine sT ?_)
         ((conv=>whnf);(repeat' ((first|refine gT ?_|((with_reducible refine ai ?_ ?_);focus (simp [lo];done))|((with_reducible refine aj ?_ ?_);focus (simp [lo];done))|(with_reducible refine ab (fun _=>?_) (fun _=>?_))|(refine qCall.sent rfl ?_)|((with_reducible refine qcp (an _ _) ?_);refine pT ?_)|((with_reducible refine qcp (aF _) ?_);refine pT ?_))<;>(conv=>whnf))))
         (refine qcv hB [(1,1)] [(0,0),(2,2),(3,3),(4,4),(5,5),(10,8),(11,9)] [] ?_;repeat' (with_reducible first|exact trivial|refine And.intro ?_ ?_))
         all_goals (try exact aO)
        ·have hz:x.pump = { ({ c := { y.c with nx:=wadd y.c.nx 1,st:=3 }, out:=y.out ++ [⟨y.c.port,y.c.pp,y.c.nx,y.c.inx,17,2048,[]⟩],told:=y.told } : Stp) with c := { (({ c := { y.c with nx:=wadd y.c.nx 1,st:=3 }, out:=y.out ++ [⟨y.c.port,y.c.pp,y.c.nx,y.c.inx,17,2048,[]⟩],told:=y.told } : Stp)).c with tm:=ba 3 } }:=by
          rw [hx];unfold Stp.pump3;rw [if_pos]
          rw [decide_eq_true_eq,lo] at hq
          exact ⟨ho,.inr hq⟩
         rw [hz]
         ((conv=>whnf);(repeat' ((first|refine gT ?_|((with_reducible refine ai ?_ ?_);focus (simp [lo];done))|((with_reducible refine aj ?_ ?_);focus (simp [lo];done))|(with_reducible refine ab (fun _=>?_) (fun _=>?_))|(refine qCall.sent rfl ?_)|((with_reducible refine qcp (an _ _) ?_);refine pT ?_)|((with_reducible refine qcp (aF _) ?_);refine pT ?_))<;>(conv=>whnf))))
         ((with_reducible refine qco (cS) [(1,1)] [(0,0),(2,2),(3,3),(4,4),(5,5),(6,8),(7,9)] [] [(8,10),(9,11)] [(1,spO (spY true 10 11 y (y.out ++ [⟨y.c.port,y.c.pp,y.c.nx,y.c.inx,17,2048,[]⟩]))),(8,.dead),(9,.dead),(10,.uniq),(11,.uniq)] (.tup []) ?_);refine sT ?_)
         ((conv=>whnf);(repeat' ((first|refine gT ?_|((with_reducible refine ai ?_ ?_);focus (simp [lo];done))|((with_reducible refine aj ?_ ?_);focus (simp [lo];done))|(with_reducible refine ab (fun _=>?_) (fun _=>?_))|(refine qCall.sent rfl ?_)|((with_reducible refine qcp (an _ _) ?_);refine pT ?_)|((with_reducible refine qcp (aF _) ?_);refine pT ?_))<;>(conv=>whnf))))
         (refine qcv hB [(1,1)] [(0,0),(2,2),(3,3),(4,4),(5,5),(10,8),(11,9)] [] ?_;repeat' (with_reducible first|exact trivial|refine And.intro ?_ ?_))
         all_goals (try exact aO)
       ·have hz:x.pump = { ({ c := { y.c with nx:=wadd y.c.nx 1,st:=3 }, out:=y.out ++ [⟨y.c.port,y.c.pp,y.c.nx,y.c.inx,17,2048,[]⟩],told:=y.told } : Stp) with c := { (({ c := { y.c with nx:=wadd y.c.nx 1,st:=3 }, out:=y.out ++ [⟨y.c.port,y.c.pp,y.c.nx,y.c.inx,17,2048,[]⟩],told:=y.told } : Stp)).c with tm:=ba 3 } }:=by
         rw [hx];unfold Stp.pump3;rw [if_pos]
         rw [decide_eq_true_eq] at hp
         exact ⟨ho,.inl hp⟩
        rw [hz]
        ((conv=>whnf);(repeat' ((first|refine gT ?_|((with_reducible refine ai ?_ ?_);focus (simp [lo];done))|((with_reducible refine aj ?_ ?_);focus (simp [lo];done))|(with_reducible refine ab (fun _=>?_) (fun _=>?_))|(refine qCall.sent rfl ?_)|((with_reducible refine qcp (an _ _) ?_);refine pT ?_)|((with_reducible refine qcp (aF _) ?_);refine pT ?_))<;>(conv=>whnf))))
        ((with_reducible refine qco (cS) [(1,1)] [(0,0),(2,2),(3,3),(4,4),(5,5),(6,8),(7,9)] [] [(8,10),(9,11)] [(1,spO (spY true 10 11 y (y.out ++ [⟨y.c.port,y.c.pp,y.c.nx,y.c.inx,17,2048,[]⟩]))),(8,.dead),(9,.dead),(10,.uniq),(11,.uniq)] (.tup []) ?_);refine sT ?_)
        ((conv=>whnf);(repeat' ((first|refine gT ?_|((with_reducible refine ai ?_ ?_);focus (simp [lo];done))|((with_reducible refine aj ?_ ?_);focus (simp [lo];done))|(with_reducible refine ab (fun _=>?_) (fun _=>?_))|(refine qCall.sent rfl ?_)|((with_reducible refine qcp (an _ _) ?_);refine pT ?_)|((with_reducible refine qcp (aF _) ?_);refine pT ?_))<;>(conv=>whnf))))
        (refine qcv hB [(1,1)] [(0,0),(2,2),(3,3),(4,4),(5,5),(10,8),(11,9)] [] ?_;repeat' (with_reducible first|exact trivial|refine And.intro ?_ ?_))
        all_goals (try exact aO)
      ·have hz:x.pump=({ c := { y.c with nx:=wadd y.c.nx 1,st:=3 }, out:=y.out ++ [⟨y.c.port,y.c.pp,y.c.nx,y.c.inx,17,2048,[]⟩],told:=y.told } : Stp):=by
        rw [hx];unfold Stp.pump3;rw [if_neg]
        rintro ⟨h,_⟩
        exact absurd (ho.symm.trans h) (by simp)
       rw [hz]
       ((conv=>whnf);(repeat' ((first|refine gT ?_|((with_reducible refine ai ?_ ?_);focus (simp [lo];done))|((with_reducible refine aj ?_ ?_);focus (simp [lo];done))|(with_reducible refine ab (fun _=>?_) (fun _=>?_))|(refine qCall.sent rfl ?_)|((with_reducible refine qcp (an _ _) ?_);refine pT ?_)|((with_reducible refine qcp (aF _) ?_);refine pT ?_))<;>(conv=>whnf))))
       ((with_reducible refine qco (cS) [(1,1)] [(0,0),(2,2),(3,3),(4,4),(5,5),(6,8),(7,9)] [] [(8,10),(9,11)] [(1,spO (spY true 10 11 y (y.out ++ [⟨y.c.port,y.c.pp,y.c.nx,y.c.inx,17,2048,[]⟩]))),(8,.dead),(9,.dead),(10,.uniq),(11,.uniq)] (.tup []) ?_);refine sT ?_)
       ((conv=>whnf);(repeat' ((first|refine gT ?_|((with_reducible refine ai ?_ ?_);focus (simp [lo];done))|((with_reducible refine aj ?_ ?_);focus (simp [lo];done))|(with_reducible refine ab (fun _=>?_) (fun _=>?_))|(refine qCall.sent rfl ?_)|((with_reducible refine qcp (an _ _) ?_);refine pT ?_)|((with_reducible refine qcp (aF _) ?_);refine pT ?_))<;>(conv=>whnf))))
       (refine qcv hB [(1,1)] [(0,0),(2,2),(3,3),(4,4),(5,5),(10,8),(11,9)] [] ?_;repeat' (with_reducible first|exact trivial|refine And.intro ?_ ?_))
       all_goals (try exact aO)
theorem co {p:Prop} (h:p:=by first|((first|rfl|(refine RowsRen.one ?_;(repeat (refine Cells.cons ?_ ?_;focus (first|exact .val _|exact Ren.gg rfl _|exact Ren.ll rfl _|exact Ren.g2 rfl _|exact Ren.oo rfl _ _|exact Ren.vnil _ _|exact Ren.vgnil _ _|exact Ren.sgs rfl rfl _|exact Ren.sgs1 rfl rfl rfl rfl|exact Ren.pgl rfl rfl _|fail)));exact Cells.nil)|exact bq rfl _|exact aI rfl _|exact aH _);done)|fail):p:=h
theorem pR (x:Stp) (hs:x.out.length≤1000000) :
 ACallL Tryz.prog 98 [.ptr 1 0 0] [.perm,spO (spR true 6 7 x),.perm,.perm,.perm,.perm,.uniq,.uniq]
  (.tup []) [.perm,spO (spR true 8 9 x.abort),.perm,.perm,.perm,.perm,.dead,.dead,.uniq,.uniq]:=by
 have cS:=em true x x.c.nx 20 [] (by simp) (by omega)
 have cC:=hY true x
 obtain ⟨y,hy⟩ : ∃ r,x.seg x.c.nx 20 []=r:=⟨_,rfl⟩
 rw [hy] at cS
 have cC2:=hY true y
 unfold Stp.abort
 rw [hy]
 cases h0:(x.c.st == 0) with
 | true =>
   have h0' : (x.c.st != 0)=false:=by simpa using h0
   rw [cond_true]
   dsimp only [spR,spL,oL] at cC ⊢
   refine ACallL.of_ev af Tryz.func98 rfl (fun a w=>Tryz.call98 a w) (congrArg Array.toList Tryz.results98) Tryz.ntmps98 fun B hB=>?_
   ((conv=>whnf);(repeat' ((first|refine gT ?_|(with_reducible refine ab (fun _=>?_) (fun _=>?_))|(((with_reducible refine qco (cC) [(1,1)] [(0,0),(2,2),(3,3),(4,4),(5,5),(6,6),(7,7)] [] [] [(1,spO (spR true 6 7 x.shut))] (.tup []) ?_);refine sT ?_)))<;>(conv=>whnf))))
   (refine qcv hB [(1,1)] [(0,0),(2,2),(3,3),(4,4),(5,5),(6,8),(7,9)] [] ?_;repeat' (with_reducible first|exact trivial|refine And.intro ?_ ?_))
   all_goals (try exact co)
 | false =>
   have h0' : (x.c.st != 0)=true:=by simpa using h0
   rw [cond_false]
   dsimp only [spR,spL,oL] at cS cC2 ⊢
   refine ACallL.of_ev af Tryz.func98 rfl (fun a w=>Tryz.call98 a w) (congrArg Array.toList Tryz.results98) Tryz.ntmps98 fun B hB=>?_
   ((conv=>whnf);(repeat' ((first|refine gT ?_|(with_reducible refine ab (fun _=>?_) (fun _=>?_)))<;>(conv=>whnf))))
   ((with_reducible refine qco (cS) [(1,1)] [(0,0),(2,2),(3,3),(4,4),(5,5),(6,6),(7,7)] [] [(8,8),(9,9)] [(1,spO (spR true 8 9 y)),(6,.dead),(7,.dead),(8,.uniq),(9,.uniq)] (.tup []) ?_);refine sT ?_)
   ((conv=>whnf);(repeat' ((first|refine gT ?_|(with_reducible refine ab (fun _=>?_) (fun _=>?_)))<;>(conv=>whnf))))
   ((with_reducible refine qco (cC2) [(1,1)] [(0,0),(2,2),(3,3),(4,4),(5,5),(6,8),(7,9)] [] [] [(1,spO (spR true 8 9 y.shut))] (.tup []) ?_);refine sT ?_)
   ((conv=>whnf);(repeat' ((first|refine gT ?_|(with_reducible refine ab (fun _=>?_) (fun _=>?_)))<;>(conv=>whnf))))
   (refine qcv hB [(1,1)] [(0,0),(2,2),(3,3),(4,4),(5,5),(8,8),(9,9)] [] ?_;repeat' (with_reducible first|exact trivial|refine And.intro ?_ ?_))
   all_goals (try exact co)
theorem wm (x:Stp) (hs:x.out.length≤1000000) (hl:x.c.out.length≤8192) :
 ACallL Tryz.prog 104 [.ptr 1 0 0] [.perm,spO (spR true 6 7 x),.perm,.perm,.perm,.perm,.uniq,.uniq]
  (.tup []) [.perm,spO (spR true 8 9 x.again),.perm,.perm,.perm,.perm,.dead,.dead,.uniq,.uniq]:=by
 have lo:(x.c.out.map bR).length=x.c.out.length:=by simp
 obtain ⟨data,hda⟩ : ∃ d,x.c.out.take (min (min (max (ah x.c.nx x.c.una) 0) ((x.c.out.map bR).length:Int)) 536).toNat=d:=⟨_,rfl⟩
 have hld:((data.map bR).length:Int)=min (min (max (ah x.c.nx x.c.una) 0) ((x.c.out.map bR).length:Int)) 536:=by rw [← hda];simp;omega
 have hcb:0≤(none:Option Int).getD 0∧(none:Option Int).getD 0≤(some (min (min (max (ah x.c.nx x.c.una) 0) ((x.c.out.map bR).length:Int)) 536)).getD ((x.c.out.map bR).length:Int)∧(some (min (min (max (ah x.c.nx x.c.una) 0) ((x.c.out.map bR).length:Int)) 536)).getD ((x.c.out.map bR).length:Int)≤(none:Option Int).getD ((x.c.out.map bR).length:Int)∧(none:Option Int).getD ((x.c.out.map bR).length:Int)≤((x.c.out.map bR).length:Int)∧((none:Option Int)=none∨(some (min (min (max (ah x.c.nx x.c.una) 0) ((x.c.out.map bR).length:Int)) 536))≠none):=by
  simp only [Option.getD_some,Option.getD_none]
  exact ⟨by omega,by omega,by omega,by omega,.inl trivial⟩
 have hsl:((x.c.out.map bR).drop ((none:Option Int).getD 0).toNat).take ((some (min (min (max (ah x.c.nx x.c.una) 0) ((x.c.out.map bR).length:Int)) 536)).getD ((x.c.out.map bR).length:Int) - (none:Option Int).getD 0).toNat=data.map bR:=by
  simp only [Option.getD_some,Option.getD_none]
  rw [← hda,List.map_take];simp
 unfold Stp.again Cn.sent Cn.len
 by_cases h1:(x.c.st == 1)=true
 ·have cS:=em true x x.c.una 18 [] (by simp) (by omega)
  rw [h1,cond_true]
  dsimp only [spR,spL,oL] at cS ⊢
  refine ACallL.of_ev af Tryz.func104 rfl (fun a w=>Tryz.call104 a w) (congrArg Array.toList Tryz.results104) Tryz.ntmps104 fun B hB=>?_
  ((conv=>whnf);(repeat' ((first|refine gT ?_|(with_reducible refine ab (fun _=>?_) (fun _=>?_))|(refine qAW.jump af 2 ?_)|(refine qCall.sent rfl ?_)|(((with_reducible refine qco (cS) [(1,1)] [(0,0),(2,2),(3,3),(4,4),(5,5),(6,6),(7,7)] [] [(8,8),(9,9)] [(1,spO (spR true 8 9 (x.seg x.c.una 18 []))),(6,.dead),(7,.dead),(8,.uniq),(9,.uniq)] (.tup []) ?_);refine sT ?_)))<;>(conv=>whnf))))
  (refine qcv hB [(1,1)] [(0,0),(2,2),(3,3),(4,4),(5,5),(8,8),(9,9)] [] ?_;repeat' (with_reducible first|exact trivial|refine And.intro ?_ ?_))
  all_goals (try exact co)
 have h1:(x.c.st == 1)=false:=by simpa using h1
 rw [h1,cond_false]
 by_cases hn:0 < ah x.c.nx x.c.una
 ·have hn' : decide (0 < ah x.c.nx x.c.una)=true:=by simpa using hn
  by_cases hlen:0 < x.c.out.length
  ·have hc:decide (0 < ((data.map bR).length:Int))=true:=by rw [hld,decide_eq_true_eq];omega
   have hle' : decide (0 < (x.c.out.length:Int))=true:=by rw [decide_eq_true_eq];omega
   have hd2:x.c.out.take (min (min (ah x.c.nx x.c.una) x.c.out.length) 536).toNat=data:=by rw [← hda,lo];congr 2;omega
   have cS:=em true x x.c.una 24 data (by rw [← hda];simp;omega) (by omega)
   rw [hn', hle', hd2,Bool.and_true,cond_true]
   dsimp only [spR,spL,oL] at cS ⊢
   refine ACallL.of_ev af Tryz.func104 rfl (fun a w=>Tryz.call104 a w) (congrArg Array.toList Tryz.results104) Tryz.ntmps104 fun B hB=>?_
   ((conv=>whnf);(repeat' ((first|refine gT ?_|(with_reducible refine ab (fun _=>?_) (fun _=>?_))|(refine qAW.jump af 2 ?_)|(refine qCall.sent rfl ?_)|(refine ak (slG' rfl rfl rfl rfl rfl rfl rfl rfl hcb hsl) ?_)|(((with_reducible refine qco (cS) [(1,1)] [(0,0),(2,2),(3,3),(4,4),(5,5),(6,6),(7,7)] [] [(8,8),(9,9)] [(1,spO (spR true 8 9 (x.seg x.c.una 24 data))),(6,.dead),(7,.dead),(8,.uniq),(9,.uniq)] (.tup []) ?_);refine sT ?_)))<;>(conv=>whnf))))
   (refine qcv hB [(1,1)] [(0,0),(2,2),(3,3),(4,4),(5,5),(8,8),(9,9)] [] ?_;repeat' (with_reducible first|exact trivial|refine And.intro ?_ ?_))
   all_goals (try exact co)
  ·have hc:decide (0 < ((data.map bR).length:Int))=false:=by rw [hld,decide_eq_false_iff_not];omega
   have hle' : decide (0 < (x.c.out.length:Int))=false:=by rw [decide_eq_false_iff_not];omega
   have cS:=em true x x.c.una 17 [] (by simp) (by omega)
   rw [hn', hle', Bool.and_false,cond_false,cond_true]
   dsimp only [spR,spL,oL] at cS ⊢
   refine ACallL.of_ev af Tryz.func104 rfl (fun a w=>Tryz.call104 a w) (congrArg Array.toList Tryz.results104) Tryz.ntmps104 fun B hB=>?_
   ((conv=>whnf);(repeat' ((first|refine gT ?_|(with_reducible refine ab (fun _=>?_) (fun _=>?_))|(refine qAW.jump af 2 ?_)|(refine qCall.sent rfl ?_)|(refine ak (slG' rfl rfl rfl rfl rfl rfl rfl rfl hcb hsl) ?_)|(((with_reducible refine qco (cS) [(1,1)] [(0,0),(2,2),(3,3),(4,4),(5,5),(6,6),(7,7)] [] [(8,8),(9,9)] [(1,spO (spR true 8 9 (x.seg x.c.una 17 []))),(6,.dead),(7,.dead),(8,.uniq),(9,.uniq)] (.tup []) ?_);refine sT ?_)))<;>(conv=>whnf))))
   (refine qcv hB [(1,1)] [(0,0),(2,2),(3,3),(4,4),(5,5),(8,8),(9,9)] [] ?_;repeat' (with_reducible first|exact trivial|refine And.intro ?_ ?_))
   all_goals (try exact co)
 ·have hn' : decide (0 < ah x.c.nx x.c.una)=false:=by simpa using hn
  have hc:decide (0 < ((data.map bR).length:Int))=false:=by rw [hld,decide_eq_false_iff_not];omega
  by_cases hlen:0 < x.c.out.length
  ·have hle' : decide (0 < (x.c.out.length:Int))=true:=by rw [decide_eq_true_eq];omega
   have hle2:decide (0 < ((x.c.out.map bR).length:Int))=true:=by rw [lo];exact hle'
   have cS:=em true x x.c.nx 24 (x.c.out.take 1) (by simp;omega) (by omega)
   obtain ⟨d1,hd1⟩ : ∃ d,x.c.out.take 1=d:=⟨_,rfl⟩
   rw [hd1] at cS
   have hcb1:0≤(none:Option Int).getD 0∧(none:Option Int).getD 0≤(some (1:Int)).getD ((x.c.out.map bR).length:Int)∧(some (1:Int)).getD ((x.c.out.map bR).length:Int)≤(none:Option Int).getD ((x.c.out.map bR).length:Int)∧(none:Option Int).getD ((x.c.out.map bR).length:Int)≤((x.c.out.map bR).length:Int)∧((none:Option Int)=none∨(some (1:Int))≠none):=by
    simp only [Option.getD_some,Option.getD_none]
    exact ⟨by omega,by omega,by omega,by omega,.inl trivial⟩
   have hsl1:((x.c.out.map bR).drop ((none:Option Int).getD 0).toNat).take ((some (1:Int)).getD ((x.c.out.map bR).length:Int) - (none:Option Int).getD 0).toNat=d1.map bR:=by
    simp only [Option.getD_some,Option.getD_none]
    rw [← hd1,List.map_take];simp
   rw [hn', hle', Bool.false_and,cond_false,cond_false,cond_true,hd1]
   dsimp only [spR,spL,oL] at cS ⊢
   refine ACallL.of_ev af Tryz.func104 rfl (fun a w=>Tryz.call104 a w) (congrArg Array.toList Tryz.results104) Tryz.ntmps104 fun B hB=>?_
   ((conv=>whnf);(repeat' ((first|refine gT ?_|(with_reducible refine ab (fun _=>?_) (fun _=>?_))|(refine qAW.jump af 2 ?_)|(refine qCall.sent rfl ?_)|((with_reducible refine qcp (an _ _) ?_);refine pT ?_)|(refine ak (slG' rfl rfl rfl rfl rfl rfl rfl rfl hcb hsl) ?_)|(refine ak (slG' rfl rfl rfl rfl rfl rfl rfl rfl hcb1 hsl1) ?_)|(((with_reducible refine qco (cS) [(1,1)] [(0,0),(2,2),(3,3),(4,4),(5,5),(6,6),(7,7)] [] [(8,8),(9,9)] [(1,spO (spR true 8 9 (x.seg x.c.nx 24 d1))),(6,.dead),(7,.dead),(8,.uniq),(9,.uniq)] (.tup []) ?_);refine sT ?_)))<;>(conv=>whnf))))
   (refine qcv hB [(1,1)] [(0,0),(2,2),(3,3),(4,4),(5,5),(8,8),(9,9)] [] ?_;repeat' (with_reducible first|exact trivial|refine And.intro ?_ ?_))
   all_goals (try exact co)
  ·have hle' : decide (0 < (x.c.out.length:Int))=false:=by rw [decide_eq_false_iff_not];omega
   have hle2:decide (0 < ((x.c.out.map bR).length:Int))=false:=by rw [lo];exact hle'
   rw [hn', hle', Bool.false_and,cond_false,cond_false,cond_false]
   dsimp only [spR,spL,oL] at ⊢
   refine ACallL.of_ev af Tryz.func104 rfl (fun a w=>Tryz.call104 a w) (congrArg Array.toList Tryz.results104) Tryz.ntmps104 fun B hB=>?_
   ((conv=>whnf);(repeat' ((first|refine gT ?_|(with_reducible refine ab (fun _=>?_) (fun _=>?_))|(refine qAW.jump af 2 ?_)|(refine qCall.sent rfl ?_)|(refine ak (slG' rfl rfl rfl rfl rfl rfl rfl rfl hcb hsl) ?_))<;>(conv=>whnf))))
   (refine qcv hB [(1,1)] [(0,0),(2,2),(3,3),(4,4),(5,5),(6,8),(7,9)] [] ?_;repeat' (with_reducible first|exact trivial|refine And.intro ?_ ?_))
   all_goals (try exact co)
theorem cj {p:Prop} (h:p:=by first|((first|rfl|exact bq rfl _|exact aI rfl _|exact aH _|exact br rfl _);done)|fail):p:=h
abbrev stA (y:Stp):AV := .tup [.agg (cnG 1 2 3 y.c),.glist 4 7 (y.out.map (sgG 5)),.val (.int .i64 0)]
abbrev stH:List Own:=[.perm,.uniq,.uniq,.uniq,.uniq,.uniq]
abbrev stNo (e:Int):AV := .tup [noC,.val (.slice none 0 0),.val (.int .i64 e)]
def errB (c:Cn) (e:Int):Int:=bif cnB c then e else 1
abbrev spB (o p d:Nat) (c:Cn):List AV:=spL (gL o c.out) (.list p 2 (c.parts.map (prg d))) (.val (.slice none 0 0)) (.val (.slice none 0 0)) c
theorem fO (c:Cn):ACallL Tryz.prog 93 [.ptr 1 0 0] [.perm,spO (spB 2 3 4 c),.perm,.perm,.perm] (.val (.bool c.talks)) [.perm,spO (spB 2 3 4 c),.perm,.perm,.perm]:=by
 unfold Cn.talks
 dsimp only [spB,spL]
 refine ACallL.of_ev af Tryz.func93 rfl (fun a w=>Tryz.call93 a w) (congrArg Array.toList Tryz.results93) Tryz.ntmps93 fun B hB=>?_
 ((conv=>whnf);(repeat' ((first|refine gT ?_|(with_reducible refine ab (fun _=>?_) (fun _=>?_)))<;>(conv=>whnf))))
 all_goals
  (refine qcv hB [(1,1)] [(0,0),(2,2),(3,3),(4,4)] [] ?_;repeat' (with_reducible first|exact trivial|refine And.intro ?_ ?_))
  all_goals (try (refine RowsRen.one ?_;(repeat (refine Cells.cons ?_ ?_;focus (first|exact .val _|exact Ren.gg rfl _|exact Ren.pgl rfl rfl _|fail)));exact Cells.nil))
 all_goals simp only [*, Bool.true_or,Bool.false_or]
theorem qP (c:Cn) (h:cnB c=true):ACallL Tryz.prog 59 [.agg (cnR 0 c)] [.perm] (stA c.aborts) stH:=by
 have px:=al c.out
 have py:=ar c.parts
 have hI:=(bh c).1 h
 have cM:=dS c hI.cnLen
 rw [h] at cM
 have cO:=dB c hI.cnLen
 have cA:=pR c.start (by simp [Cn.start])
 unfold Cn.aborts
 obtain ⟨y,hy⟩ : ∃ r,c.start.abort=r:=⟨_,rfl⟩
 rw [hy] at cA ⊢
 have cD:=eR y
 unfold Cn.start at cA
 dsimp only [cnR,cnL,cnG,spR,spN,spL,oL] at cM cO cA cD ⊢
 refine ACallL.of_ev af Tryz.func59 rfl (fun a w=>Tryz.call59 a w) (congrArg Array.toList Tryz.results59) Tryz.ntmps59 fun B hB=>?_
 ((conv=>whnf);(repeat' ((first|refine gT ?_|(with_reducible refine ab (fun _=>?_) (fun _=>?_))|((with_reducible refine qcp (cM) ?_);refine pT ?_))<;>(conv=>whnf))))
 ((with_reducible refine qco (cO) [] [(0,0)] [] [(1,3),(2,4),(3,5)] [(3,.uniq),(4,.uniq),(5,.uniq)] (.agg (cnG 3 4 5 c)) ?_);refine sT ?_)
 ((conv=>whnf);(repeat' ((first|refine gT ?_|(with_reducible refine ab (fun _=>?_) (fun _=>?_)))<;>(conv=>whnf))))
 ((with_reducible refine qco (cA) [(1,6)] [(0,0),(2,3),(3,4),(4,5),(5,3)] [] [(8,7),(9,8)] [(6,spO (spN true 3 4 5 3 7 8 y)),(7,.uniq),(8,.uniq)] (.tup []) ?_);refine sT ?_)
 ((conv=>whnf);(repeat' ((first|refine gT ?_|(with_reducible refine ab (fun _=>?_) (fun _=>?_)))<;>(conv=>whnf))))
 ((with_reducible refine qco (cD) [(1,6)] [(0,0),(2,3),(3,4),(4,5),(5,3),(6,7),(7,8)] [] [] [(6,spO (spN true 3 4 5 3 7 8 y))] (.tup [.agg (cnG 3 4 5 y.c),.glist 7 7 (y.out.map (sgG 8)),.val (.int .i64 0)]) ?_);refine sT ?_)
 ((conv=>whnf);(repeat' ((first|refine gT ?_|(with_reducible refine ab (fun _=>?_) (fun _=>?_)))<;>(conv=>whnf))))
 (refine qcv hB [] [(0,0),(3,1),(4,2),(5,3),(7,4),(8,5)] [] ?_;repeat' (with_reducible first|exact trivial|refine And.intro ?_ ?_))
 all_goals (try exact cj)
theorem oC (c:Cn) (hc:aA c) (h:cnB c=false∨c.closeE≠0):ACallL Tryz.prog 57 [.agg (cnR 0 c)] [.perm] (stNo (errB c c.closeE)) [.perm]:=by
 have px:=al c.out
 have py:=ar c.parts
 have cM:=dS c hc
 have cO:=dB c hc
 have cT:=fO c
 unfold errB
 obtain ⟨b1,h1⟩ : ∃ r,cnB c=r:=⟨_,rfl⟩
 rw [h1] at cM h ⊢
 unfold Cn.closeE at h ⊢
 obtain ⟨t,ht2⟩ : ∃ r,c.talks=r:=⟨_,rfl⟩
 rw [ht2] at cT h ⊢
 dsimp only [cnR,cnL,cnG,spB,spL,oL] at cM cO cT ⊢
 refine ACallL.of_ev af Tryz.func57 rfl (fun a w=>Tryz.call57 a w) (congrArg Array.toList Tryz.results57) Tryz.ntmps57 fun B hB=>?_
 ((conv=>whnf);(repeat' ((first|refine gT ?_|(with_reducible refine ab (fun _=>?_) (fun _=>?_)))<;>(conv=>whnf))))
 ((with_reducible refine qco (cO) [] [(0,0)] [] [(1,3),(2,4),(3,5)] [(3,.uniq),(4,.uniq),(5,.uniq)] (.agg (cnG 3 4 5 c)) ?_);refine sT ?_)
 ((conv=>whnf);(repeat' ((first|refine gT ?_|(with_reducible refine ab (fun _=>?_) (fun _=>?_))|((with_reducible refine qcp (cM) ?_);refine pT ?_)|(((with_reducible refine qco (cT) [(1,6)] [(0,0),(2,3),(3,4),(4,5)] [] [] [(6,spO (spB 3 4 5 c))] (.val (.bool t)) ?_);refine sT ?_)))<;>(conv=>whnf))))
 all_goals (try simp only [bne,Bool.not_eq_true', Bool.not_eq_false'] at *)
 all_goals (try simp only [*, cond_true,cond_false,Bool.true_or,Bool.or_true,Bool.false_or,Bool.or_false,Bool.true_and,Bool.false_and,Bool.and_true,Bool.and_false,Bool.not_true,Bool.not_false])
 all_goals first|((refine qcv hB [] [(0,0)] [] ?_;repeat' (with_reducible first|exact trivial|refine And.intro ?_ ?_)))|(exfalso;simp_all;done)
theorem lK (c:Cn):ACallL Tryz.prog 95 [.ptr 1 0 0] [.perm,spO (spB 2 3 4 c),.perm,.perm,.perm] (.tup [.agg (cnG 2 3 4 c),.val (.slice none 0 0),.val (.int .i64 0)]) [.perm,spO (spB 2 3 4 c),.perm,.perm,.perm]:=by
 dsimp only [spB,spL,cnG,cnL]
 refine ACallL.of_ev af Tryz.func95 rfl (fun a w=>Tryz.call95 a w) (congrArg Array.toList Tryz.results95) Tryz.ntmps95 fun B hB=>?_
 ((conv=>whnf);(repeat' ((first|refine gT ?_|(with_reducible refine ab (fun _=>?_) (fun _=>?_)))<;>(conv=>whnf))))
 all_goals
  (refine qcv hB [(1,1)] [(0,0),(2,2),(3,3),(4,4)] [] ?_;repeat' (with_reducible first|exact trivial|refine And.intro ?_ ?_))
  all_goals (try (first|exact aH _|exact aI rfl _|(refine RowsRen.one ?_;(repeat (refine Cells.cons ?_ ?_;focus (first|exact .val _|exact Ren.gg rfl _|exact Ren.pgl rfl rfl _|fail)));exact Cells.nil)))
theorem qj (c:Cn) (h:cnB c=true) (he:c.closeE=0):ACallL Tryz.prog 57 [.agg (cnR 0 c)] [.perm] (stA c.closes) stH:=by
 have px:=al c.out
 have py:=ar c.parts
 have hI:=(bh c).1 h
 have cM:=dS c hI.cnLen
 have cO:=dB c hI.cnLen
 rw [h] at cM
 obtain ⟨hcl,hts⟩:c.closing=false∧(c.talks || c.st == 1)=true:=by
  unfold Cn.closeE at he
  cases h1:c.closing<;>cases h2:(c.talks || c.st == 1)<;>rw [h1,h2] at he<;>simp at he ⊢
 have cT:=fO c
 have cT1:=fO ({ c with closing:=true } : Cn)
 have l14:(({ c with closing:=true } : Cn)).talks=c.talks:=rfl
 rw [l14] at cT1
 unfold Cn.closes
 cases ht:c.talks with
 | true =>
   have cP:=se (({ c with closing:=true } : Cn)).start ⟨hI.una,hI.nx,((hI.pumpOk ht).s0),((hI.pumpOk ht).s1),hI.len,hI.win⟩ (by simp [Cn.start])
   obtain ⟨y,hy⟩ : ∃ r,(({ c with closing:=true } : Cn)).start.pump=r:=⟨_,rfl⟩
   rw [hy] at cP
   rw [cond_true,hy]
   have cD:=eR y
   rw [ht] at cT cT1
   unfold Cn.start at cP
   dsimp only [cnR,cnL,cnG,spR,spN,spB,spL,oL] at cM cO cT cT1 cP cD ⊢
   refine ACallL.of_ev af Tryz.func57 rfl (fun a w=>Tryz.call57 a w) (congrArg Array.toList Tryz.results57) Tryz.ntmps57 fun B hB=>?_
   ((conv=>whnf);(repeat' ((first|refine gT ?_|(with_reducible refine ab (fun _=>?_) (fun _=>?_)))<;>(conv=>whnf))))
   ((with_reducible refine qco (cO) [] [(0,0)] [] [(1,3),(2,4),(3,5)] [(3,.uniq),(4,.uniq),(5,.uniq)] (.agg (cnG 3 4 5 c)) ?_);refine sT ?_)
   ((conv=>whnf);(repeat' ((first|refine gT ?_|(with_reducible refine ab (fun _=>?_) (fun _=>?_))|((with_reducible refine qcp (cM) ?_);refine pT ?_))<;>(conv=>whnf))))
   ((with_reducible refine qco (cT) [(1,6)] [(0,0),(2,3),(3,4),(4,5)] [] [] [(6,spO (spB 3 4 5 c))] (.val (.bool true)) ?_);refine sT ?_)
   ((conv=>whnf);(repeat' ((first|refine gT ?_|(with_reducible refine ab (fun _=>?_) (fun _=>?_)))<;>(conv=>whnf))))
   ((with_reducible refine qco (cT1) [(1,6)] [(0,0),(2,3),(3,4),(4,5)] [] [] [(6,spO (spB 3 4 5 ({ c with closing:=true } : Cn)))] (.val (.bool true)) ?_);refine sT ?_)
   ((conv=>whnf);(repeat' ((first|refine gT ?_|(with_reducible refine ab (fun _=>?_) (fun _=>?_)))<;>(conv=>whnf))))
   ((with_reducible refine qco (cP) [(1,6)] [(0,0),(2,3),(3,4),(4,5),(5,3)] [] [(8,7),(9,8)] [(6,spO (spN true 3 4 5 3 7 8 y)),(7,.uniq),(8,.uniq)] (.tup []) ?_);refine sT ?_)
   ((conv=>whnf);(repeat' ((first|refine gT ?_|(with_reducible refine ab (fun _=>?_) (fun _=>?_)))<;>(conv=>whnf))))
   ((with_reducible refine qco (cD) [(1,6)] [(0,0),(2,3),(3,4),(4,5),(5,3),(6,7),(7,8)] [] [] [(6,spO (spN true 3 4 5 3 7 8 y))] (.tup [.agg (cnG 3 4 5 y.c),.glist 7 7 (y.out.map (sgG 8)),.val (.int .i64 0)]) ?_);refine sT ?_)
   ((conv=>whnf);(repeat' ((first|refine gT ?_|(with_reducible refine ab (fun _=>?_) (fun _=>?_)))<;>(conv=>whnf))))
   (refine qcv hB [] [(0,0),(3,1),(4,2),(5,3),(7,4),(8,5)] [] ?_;repeat' (with_reducible first|exact trivial|refine And.intro ?_ ?_))
   all_goals (try exact cj)
 | false =>
   have h1:(c.st == 1)=true:=by rw [ht] at hts;simpa using hts
   have h1' : (c.st != 1)=false:=by simpa using h1
   have cD:=lK ({ c with closing:=true } : Cn)
   rw [cond_false]
   rw [ht] at cT cT1
   unfold Cn.start
   dsimp only [cnR,cnL,cnG,spR,spN,spB,spL,oL] at cM cO cT cT1 cD ⊢
   refine ACallL.of_ev af Tryz.func57 rfl (fun a w=>Tryz.call57 a w) (congrArg Array.toList Tryz.results57) Tryz.ntmps57 fun B hB=>?_
   ((conv=>whnf);(repeat' ((first|refine gT ?_|(with_reducible refine ab (fun _=>?_) (fun _=>?_)))<;>(conv=>whnf))))
   ((with_reducible refine qco (cO) [] [(0,0)] [] [(1,3),(2,4),(3,5)] [(3,.uniq),(4,.uniq),(5,.uniq)] (.agg (cnG 3 4 5 c)) ?_);refine sT ?_)
   ((conv=>whnf);(repeat' ((first|refine gT ?_|(with_reducible refine ab (fun _=>?_) (fun _=>?_))|((with_reducible refine qcp (cM) ?_);refine pT ?_))<;>(conv=>whnf))))
   ((with_reducible refine qco (cT) [(1,6)] [(0,0),(2,3),(3,4),(4,5)] [] [] [(6,spO (spB 3 4 5 c))] (.val (.bool false)) ?_);refine sT ?_)
   ((conv=>whnf);(repeat' ((first|refine gT ?_|(with_reducible refine ab (fun _=>?_) (fun _=>?_)))<;>(conv=>whnf))))
   ((with_reducible refine qco (cT1) [(1,6)] [(0,0),(2,3),(3,4),(4,5)] [] [] [(6,spO (spB 3 4 5 ({ c with closing:=true } : Cn)))] (.val (.bool false)) ?_);refine sT ?_)
   ((conv=>whnf);(repeat' ((first|refine gT ?_|(with_reducible refine ab (fun _=>?_) (fun _=>?_)))<;>(conv=>whnf))))
   ((with_reducible refine qco (cD) [(1,6)] [(0,0),(2,3),(3,4),(4,5)] [] [] [(6,spO (spB 3 4 5 ({ c with closing:=true } : Cn)))] (.tup [.agg (cnG 3 4 5 ({ c with closing:=true } : Cn)),.val (.slice none 0 0),.val (.int .i64 0)]) ?_);refine sT ?_)
   ((conv=>whnf);(repeat' ((first|refine gT ?_|(with_reducible refine ab (fun _=>?_) (fun _=>?_)))<;>(conv=>whnf))))
   (refine qcv hB [] [(0,0),(3,1),(4,2),(5,3)] [] ?_;repeat' (with_reducible first|exact trivial|refine And.intro ?_ ?_))
   all_goals (try exact cj)
theorem qc (c:Cn) (xs:List Int) (hc:aA c) (hx:xs.length≤100000000) (h:cnB c=false∨c.sendE xs≠0):ACallL Tryz.prog 55 [.agg (cnR 0 c),bL 0 xs] [.perm] (stNo (errB c (c.sendE xs))) [.perm]:=by
 have px:=al c.out
 have py:=ar c.parts
 have pz:=al xs
 have cM:=dS c hc
 have cO:=dB c hc
 have cT:=fO c
 have ho:=hc.1
 have w:=IntWalk.i64_in (8192 - (c.out.length:Int)) (by omega)
 unfold errB
 obtain ⟨b1,h1⟩ : ∃ r,cnB c=r:=⟨_,rfl⟩
 rw [h1] at cM h ⊢
 unfold Cn.sendE at h ⊢
 obtain ⟨t,ht2⟩ : ∃ r,c.talks=r:=⟨_,rfl⟩
 rw [ht2] at cT h ⊢
 rw [← w] at h ⊢
 clear w ho
 dsimp only [cnR,cnL,cnG,spB,spL,oL] at cM cO cT ⊢
 refine ACallL.of_ev af Tryz.func55 rfl (fun a w=>Tryz.call55 a w) (congrArg Array.toList Tryz.results55) Tryz.ntmps55 fun B hB=>?_
 ((conv=>whnf);(repeat' ((first|refine gT ?_|(with_reducible refine ab (fun _=>?_) (fun _=>?_)))<;>(conv=>whnf))))
 ((with_reducible refine qco (cO) [] [(0,0)] [] [(1,3),(2,4),(3,5)] [(3,.uniq),(4,.uniq),(5,.uniq)] (.agg (cnG 3 4 5 c)) ?_);refine sT ?_)
 ((conv=>whnf);(repeat' ((first|refine gT ?_|(with_reducible refine ab (fun _=>?_) (fun _=>?_))|((with_reducible refine qcp (cM) ?_);refine pT ?_)|(((with_reducible refine qco (cT) [(1,6)] [(0,0),(2,3),(3,4),(4,5)] [] [] [(6,spO (spB 3 4 5 c))] (.val (.bool t)) ?_);refine sT ?_)))<;>(conv=>whnf))))
 all_goals (try simp only [bne,Bool.not_eq_true', Bool.not_eq_false', List.length_map] at *)
 all_goals (try simp only [*, cond_true,cond_false,Bool.true_or,Bool.or_true,Bool.false_or,Bool.or_false,Bool.true_and,Bool.false_and,Bool.and_true,Bool.and_false,Bool.not_true,Bool.not_false])
 all_goals first|((refine qcv hB [] [(0,0)] [] ?_;repeat' (with_reducible first|exact trivial|refine And.intro ?_ ?_)))|(exfalso;simp_all;done)
theorem sv (c:Cn) (xs:List Int) (h:cnB c=true) (he:c.sendE xs=0):ACallL Tryz.prog 55 [.agg (cnR 0 c),bL 0 xs] [.perm] (stA (c.sends xs)) stH:=by
 have px:=al c.out
 have py:=ar c.parts
 have pz:=al xs
 have hI:=(bh c).1 h
 have cM:=dS c hI.cnLen
 have cO:=dB c hI.cnLen
 have hlen:=hI.len
 have lo:(c.out.map bR).length=c.out.length:=by simp
 have lx:(xs.map bR).length=xs.length:=by simp
 rw [h] at cM
 obtain ⟨ht,hcl,hle⟩:c.talks=true∧c.closing=false ∧ ¬ (8192 - (c.out.length:Int) < (xs.length:Int)):=by
  unfold Cn.sendE at he
  cases h1:c.closing<;>cases h2:c.talks<;>rw [h1,h2] at he<;>simp at he ⊢
  cases h3:decide (8192 - (c.out.length:Int) < (xs.length:Int)) with
  | true=>rw [h3] at he;simp at he
  | false=>simpa using h3
 have w:=IntWalk.i64_in (8192 - (c.out.length:Int)) (by omega)
 have hle' : decide (IntKind.i64.wrap (8192 - ((c.out.map bR).length:Int)) < ((xs.map bR).length:Int))=false:=by rw [lo,lx,w,decide_eq_false_iff_not];exact hle
 have cT:=fO c
 rw [ht] at cT
 unfold Cn.sends
 have hlx:(c.out ++ xs).length≤8192:=by simp;omega
 have hP:=hI.pumpOk ht
 have cP:=se (({ c with out:=c.out ++ xs } : Cn)).start ⟨hI.una,hI.nx,hP.s0,by have:=hP.s1;show ah c.nx c.una≤((c.out ++ xs).length:Int);unfold Cn.sent at this;simp;omega,hlx,hI.win⟩ (by simp [Cn.start])
 obtain ⟨y,hy⟩ : ∃ r,(({ c with out:=c.out ++ xs } : Cn)).start.pump=r:=⟨_,rfl⟩
 rw [hy] at cP ⊢
 have cD:=eR y
 unfold Cn.start at cP
 dsimp only [cnR,cnL,cnG,spR,spN,spB,spL,oL] at cM cO cT cP cD ⊢
 have hmap:c.out.map bR ++ xs.map bR=(c.out ++ xs).map bR:=by simp
 refine ACallL.of_ev af Tryz.func55 rfl (fun a w=>Tryz.call55 a w) (congrArg Array.toList Tryz.results55) Tryz.ntmps55 fun B hB=>?_
 ((conv=>whnf);(repeat' ((first|refine gT ?_|(with_reducible refine ab (fun _=>?_) (fun _=>?_)))<;>(conv=>whnf))))
 ((with_reducible refine qco (cO) [] [(0,0)] [] [(1,3),(2,4),(3,5)] [(3,.uniq),(4,.uniq),(5,.uniq)] (.agg (cnG 3 4 5 c)) ?_);refine sT ?_)
 ((conv=>whnf);(repeat' ((first|refine gT ?_|(with_reducible refine ab (fun _=>?_) (fun _=>?_))|((with_reducible refine qcp (cM) ?_);refine pT ?_))<;>(conv=>whnf))))
 ((with_reducible refine qco (cT) [(1,6)] [(0,0),(2,3),(3,4),(4,5)] [] [] [(6,spO (spB 3 4 5 c))] (.val (.bool true)) ?_);refine sT ?_)
 ((conv=>whnf);(repeat' ((first|refine gT ?_|(with_reducible refine ab (fun _=>?_) (fun _=>?_))|(refine ak (apG' (nb:=1) rfl rfl rfl rfl rfl rfl rfl rfl rfl rfl (by decide) (iq xs) (by rw [lo,lx];omega) hmap) ?_))<;>(conv=>whnf))))
 ((with_reducible refine qco (cP) [(1,6)] [(0,0),(2,7),(3,4),(4,5),(5,7)] [] [(8,8),(9,9)] [(6,spO (spN true 7 4 5 7 8 9 y)),(8,.uniq),(9,.uniq)] (.tup []) ?_);refine sT ?_)
 ((conv=>whnf);(repeat' ((first|refine gT ?_|(with_reducible refine ab (fun _=>?_) (fun _=>?_)))<;>(conv=>whnf))))
 ((with_reducible refine qco (cD) [(1,6)] [(0,0),(2,7),(3,4),(4,5),(5,7),(6,8),(7,9)] [] [] [(6,spO (spN true 7 4 5 7 8 9 y))] (.tup [.agg (cnG 7 4 5 y.c),.glist 8 7 (y.out.map (sgG 9)),.val (.int .i64 0)]) ?_);refine sT ?_)
 ((conv=>whnf);(repeat' ((first|refine gT ?_|(with_reducible refine ab (fun _=>?_) (fun _=>?_)))<;>(conv=>whnf))))
 (refine qcv hB [] [(0,0),(7,1),(4,2),(5,3),(8,4),(9,5)] [] ?_;repeat' (with_reducible first|exact trivial|refine And.intro ?_ ?_))
 all_goals (try exact cj)
theorem rn (c:Cn):ACallL Tryz.prog 102 [.ptr 1 0 0] [.perm,spO (spB 2 3 4 c),.perm,.perm,.perm] (.tup []) [.perm,spO (spB 2 3 4 c.shut),.perm,.perm,.perm]:=by
 dsimp only [spB,spL]
 refine ACallL.of_ev af Tryz.func102 rfl (fun a w=>Tryz.call102 a w) (congrArg Array.toList Tryz.results102) Tryz.ntmps102 fun B hB=>?_
 ((conv=>whnf);(repeat' ((first|refine gT ?_|(with_reducible refine ab (fun _=>?_) (fun _=>?_)))<;>(conv=>whnf))))
 (refine qcv hB [(1,1)] [(0,0),(2,2),(3,3),(4,4)] [] ?_;repeat' (with_reducible first|exact trivial|refine And.intro ?_ ?_))
 all_goals (try (refine RowsRen.one ?_;(repeat (refine Cells.cons ?_ ?_;focus (first|exact .val _|exact Ren.vnil _ _|exact Ren.vgnil _ _|exact Ren.gg rfl _|exact Ren.pgl rfl rfl _|fail)));exact Cells.nil))
theorem rW (c:Cn) (h:cnB c=true):ACallL Tryz.prog 61 [.agg (cnR 0 c)] [.perm] (stA c.ticks) stH:=by
 have px:=al c.out
 have py:=ar c.parts
 have hI:=(bh c).1 h
 have cM:=dS c hI.cnLen
 rw [h] at cM
 have cO:=dB c hI.cnLen
 obtain ⟨ht1,ht2,ht3,ht4⟩:=ln hI.tm
 have cB:=vD c.tm ht1
 unfold Cn.ticks
 obtain ⟨t1,hb⟩ : ∃ r,aX c.tm=r:=⟨_,rfl⟩
 rw [hb] at cB ⊢
 cases hr:cQ c.tm with
 | false =>
   rw [hr] at cB
   rw [cond_false]
   have cD:=lK ({ c with tm:=t1 } : Cn)
   unfold Cn.start
   dsimp only [cnR,cnL,cnG,spR,spN,spB,spL,oL,tmC] at cM cO cB cD ⊢
   refine ACallL.of_ev af Tryz.func61 rfl (fun a w=>Tryz.call61 a w) (congrArg Array.toList Tryz.results61) Tryz.ntmps61 fun B hB=>?_
   ((conv=>whnf);(repeat' ((first|refine gT ?_|(with_reducible refine ab (fun _=>?_) (fun _=>?_))|((with_reducible refine qcp (cM) ?_);refine pT ?_))<;>(conv=>whnf))))
   ((with_reducible refine qco (cO) [] [(0,0)] [] [(1,3),(2,4),(3,5)] [(3,.uniq),(4,.uniq),(5,.uniq)] (.agg (cnG 3 4 5 c)) ?_);refine sT ?_)
   ((conv=>whnf);(repeat' ((first|refine gT ?_|(with_reducible refine ab (fun _=>?_) (fun _=>?_))|((with_reducible refine qcp (cB) ?_);refine pT ?_))<;>(conv=>whnf))))
   ((with_reducible refine qco (cD) [(1,6)] [(0,0),(2,3),(3,4),(4,5)] [] [] [(6,spO (spB 3 4 5 ({ c with tm:=t1 } : Cn)))] (.tup [.agg (cnG 3 4 5 ({ c with tm:=t1 } : Cn)),.val (.slice none 0 0),.val (.int .i64 0)]) ?_);refine sT ?_)
   ((conv=>whnf);(repeat' ((first|refine gT ?_|(with_reducible refine ab (fun _=>?_) (fun _=>?_)))<;>(conv=>whnf))))
   (refine qcv hB [] [(0,0),(3,1),(4,2),(5,3)] [] ?_;repeat' (with_reducible first|exact trivial|refine And.intro ?_ ?_))
   all_goals (try exact cj)
 | true =>
   rw [hr] at cB
   rw [cond_true]
   have hon:c.tm.on=true:=by
    unfold cQ at hr
    rw [Bool.and_eq_true] at hr
    exact hr.1
   have ht1on:t1.on=true:=by rw [← hb];exact hon
   have ht1t:t1.tries=c.tm.tries:=by rw [← hb];rfl
   have ht1w:t1.wait=c.tm.wait:=by rw [← hb];rfl
   have ht1l:0≤t1.left∧t1.left≤48:=by
    rw [← hb]
    show 0≤(if c.tm.on=true then max (c.tm.left - 1) 0 else c.tm.left)∧(if c.tm.on=true then max (c.tm.left - 1) 0 else c.tm.left)≤48
    rw [if_pos hon];omega
   have hB1:tmB t1=true:=by
    simp only [tmB,Bool.and_eq_true,decide_eq_true_eq,Bool.or_eq_true]
    exact ⟨by omega,.inl ht1on⟩
   cases h8:(c.st == 8) with
   | true =>
     rw [cond_true]
     have cC:=rn ({ c with tm:=t1 } : Cn)
     have cD:=lK (({ c with tm:=t1 } : Cn)).shut
     unfold Cn.start Stp.shut
     dsimp only [cnR,cnL,cnG,spR,spN,spB,spL,oL,tmC] at cM cO cB cC cD ⊢
     refine ACallL.of_ev af Tryz.func61 rfl (fun a w=>Tryz.call61 a w) (congrArg Array.toList Tryz.results61) Tryz.ntmps61 fun B hB=>?_
     ((conv=>whnf);(repeat' ((first|refine gT ?_|(with_reducible refine ab (fun _=>?_) (fun _=>?_))|((with_reducible refine qcp (cM) ?_);refine pT ?_))<;>(conv=>whnf))))
     ((with_reducible refine qco (cO) [] [(0,0)] [] [(1,3),(2,4),(3,5)] [(3,.uniq),(4,.uniq),(5,.uniq)] (.agg (cnG 3 4 5 c)) ?_);refine sT ?_)
     ((conv=>whnf);(repeat' ((first|refine gT ?_|(with_reducible refine ab (fun _=>?_) (fun _=>?_))|((with_reducible refine qcp (cB) ?_);refine pT ?_))<;>(conv=>whnf))))
     ((with_reducible refine qco (cC) [(1,6)] [(0,0),(2,3),(3,4),(4,5)] [] [] [(6,spO (spB 3 4 5 (({ c with tm:=t1 } : Cn)).shut))] (.tup []) ?_);refine sT ?_)
     ((conv=>whnf);(repeat' ((first|refine gT ?_|(with_reducible refine ab (fun _=>?_) (fun _=>?_)))<;>(conv=>whnf))))
     ((with_reducible refine qco (cD) [(1,6)] [(0,0),(2,3),(3,4),(4,5)] [] [] [(6,spO (spB 3 4 5 (({ c with tm:=t1 } : Cn)).shut))] (.tup [.agg (cnG 3 4 5 (({ c with tm:=t1 } : Cn)).shut),.val (.slice none 0 0),.val (.int .i64 0)]) ?_);refine sT ?_)
     ((conv=>whnf);(repeat' ((first|refine gT ?_|(with_reducible refine ab (fun _=>?_) (fun _=>?_)))<;>(conv=>whnf))))
     (refine qcv hB [] [(0,0),(3,1),(4,2),(5,3)] [] ?_;repeat' (with_reducible first|exact trivial|refine And.intro ?_ ?_))
     all_goals (try exact cj)
   | false =>
     rw [cond_false]
     have cK:=wv t1 hB1 ht1on
     cases h88:(c.tm.tries == 8) with
     | true =>
       rw [cond_true]
       have e8:t1.tries=8:=by rw [ht1t];simpa using h88
       rw [if_pos e8,if_pos e8] at cK
       have cA:=pR (({ c with tm:=t1 } : Cn)).start (by simp [Cn.start])
       unfold Cn.aborts
       obtain ⟨y,hy⟩ : ∃ r,(({ c with tm:=t1 } : Cn)).start.abort=r:=⟨_,rfl⟩
       rw [hy] at cA ⊢
       have cD:=eR y
       unfold Cn.start at cA
       dsimp only [cnR,cnL,cnG,spR,spN,spB,spL,oL,tmC] at cM cO cB cK cA cD ⊢
       refine ACallL.of_ev af Tryz.func61 rfl (fun a w=>Tryz.call61 a w) (congrArg Array.toList Tryz.results61) Tryz.ntmps61 fun B hB=>?_
       ((conv=>whnf);(repeat' ((first|refine gT ?_|(with_reducible refine ab (fun _=>?_) (fun _=>?_))|((with_reducible refine qcp (cM) ?_);refine pT ?_))<;>(conv=>whnf))))
       ((with_reducible refine qco (cO) [] [(0,0)] [] [(1,3),(2,4),(3,5)] [(3,.uniq),(4,.uniq),(5,.uniq)] (.agg (cnG 3 4 5 c)) ?_);refine sT ?_)
       ((conv=>whnf);(repeat' ((first|refine gT ?_|(with_reducible refine ab (fun _=>?_) (fun _=>?_))|((with_reducible refine qcp (cB) ?_);refine pT ?_)|((with_reducible refine qcp (cK) ?_);refine pT ?_))<;>(conv=>whnf))))
       ((with_reducible refine qco (cA) [(1,6)] [(0,0),(2,3),(3,4),(4,5),(5,3)] [] [(8,8),(9,9)] [(6,spO (spN true 3 4 5 3 8 9 y)),(8,.uniq),(9,.uniq)] (.tup []) ?_);refine sT ?_)
       ((conv=>whnf);(repeat' ((first|refine gT ?_|(with_reducible refine ab (fun _=>?_) (fun _=>?_)))<;>(conv=>whnf))))
       ((with_reducible refine qco (cD) [(1,6)] [(0,0),(2,3),(3,4),(4,5),(5,3),(6,8),(7,9)] [] [] [(6,spO (spN true 3 4 5 3 8 9 y))] (.tup [.agg (cnG 3 4 5 y.c),.glist 8 7 (y.out.map (sgG 9)),.val (.int .i64 0)]) ?_);refine sT ?_)
       ((conv=>whnf);(repeat' ((first|refine gT ?_|(with_reducible refine ab (fun _=>?_) (fun _=>?_)))<;>(conv=>whnf))))
       (refine qcv hB [] [(0,0),(3,1),(4,2),(5,3),(8,4),(9,5)] [] ?_;repeat' (with_reducible first|exact trivial|refine And.intro ?_ ?_))
       all_goals (try exact cj)
     | false =>
       rw [cond_false]
       have e8 : ¬ t1.tries=8:=by rw [ht1t];simpa using h88
       rw [if_neg e8,if_neg e8] at cK
       obtain ⟨t2,hb2⟩ : ∃ r,df t1=r:=⟨_,rfl⟩
       rw [hb2] at cK ⊢
       have cA:=wm (({ c with tm:=t2 } : Cn)).start (by simp [Cn.start]) hI.len
       obtain ⟨y,hy⟩ : ∃ r,(({ c with tm:=t2 } : Cn)).start.again=r:=⟨_,rfl⟩
       rw [hy] at cA ⊢
       have cD:=eR y
       unfold Cn.start at cA
       dsimp only [cnR,cnL,cnG,spR,spN,spB,spL,oL,tmC] at cM cO cB cK cA cD ⊢
       refine ACallL.of_ev af Tryz.func61 rfl (fun a w=>Tryz.call61 a w) (congrArg Array.toList Tryz.results61) Tryz.ntmps61 fun B hB=>?_
       ((conv=>whnf);(repeat' ((first|refine gT ?_|(with_reducible refine ab (fun _=>?_) (fun _=>?_))|((with_reducible refine qcp (cM) ?_);refine pT ?_))<;>(conv=>whnf))))
       ((with_reducible refine qco (cO) [] [(0,0)] [] [(1,3),(2,4),(3,5)] [(3,.uniq),(4,.uniq),(5,.uniq)] (.agg (cnG 3 4 5 c)) ?_);refine sT ?_)
       ((conv=>whnf);(repeat' ((first|refine gT ?_|(with_reducible refine ab (fun _=>?_) (fun _=>?_))|((with_reducible refine qcp (cB) ?_);refine pT ?_)|((with_reducible refine qcp (cK) ?_);refine pT ?_))<;>(conv=>whnf))))
       ((with_reducible refine qco (cA) [(1,6)] [(0,0),(2,3),(3,4),(4,5),(5,3)] [] [(8,8),(9,9)] [(6,spO (spN true 3 4 5 3 8 9 y)),(8,.uniq),(9,.uniq)] (.tup []) ?_);refine sT ?_)
       ((conv=>whnf);(repeat' ((first|refine gT ?_|(with_reducible refine ab (fun _=>?_) (fun _=>?_)))<;>(conv=>whnf))))
       ((with_reducible refine qco (cD) [(1,6)] [(0,0),(2,3),(3,4),(4,5),(5,3),(6,8),(7,9)] [] [] [(6,spO (spN true 3 4 5 3 8 9 y))] (.tup [.agg (cnG 3 4 5 y.c),.glist 8 7 (y.out.map (sgG 9)),.val (.int .i64 0)]) ?_);refine sT ?_)
       ((conv=>whnf);(repeat' ((first|refine gT ?_|(with_reducible refine ab (fun _=>?_) (fun _=>?_)))<;>(conv=>whnf))))
       (refine qcv hB [] [(0,0),(3,1),(4,2),(5,3),(8,4),(9,5)] [] ?_;repeat' (with_reducible first|exact trivial|refine And.intro ?_ ?_))
       all_goals (try exact cj)
theorem xP : ∀ n:Fin 64,(bits .and .i64 ((n.val:Nat):Int) 22 == 2)=(!(bits .and .i64 ((n.val:Nat):Int) 2 == 0) && (bits .and .i64 ((n.val:Nat):Int) 20 == 0)):=by decide +kernel
theorem vw {fl:Int} (h:0≤fl∧fl≤63):(bits .and .i64 fl 22 == 2)=(!flN fl 2 && flN fl 20):=by
 have:=xP ⟨fl.toNat,by omega⟩
 rw [show ((fl.toNat:Nat):Int)=fl by omega] at this
 exact this
theorem xi {m:Sg} (h:sgB m=true):0≤m.fl∧m.fl≤63:=(jE h).2.2.2.2.1
theorem Ren.fzS {L I F:Prs} {h:Hp} {b r d d' : Nat} {e:TypeId} {m:Sg} (h0:F.has b r=true) (hb:h b = .live ⟨7,e,[sgG d m]⟩) (h1:I.has d d' = true):Ren (qOf L I F) h (.sl b 0 1) (.glist r 7 ([m].map (sgG d'))):=by
 obtain ⟨x,y,z⟩:=bq (L:=L) (I:=I) (F:=F) (h:=h) h1 [m]
 exact .frzg _ _ _ _ _ _ ((Prs.has_iff F b r).1 h0) hb x y z
theorem wP (c:Cn) (seq fl:Int):ACallL Tryz.prog 130 [.ptr 1 0 0,.val (.int .i64 seq),.val (.int .i64 fl),.val (.slice none 0 0)] [.perm,spO (spL (.val (.slice none 0 0)) (.val (.slice none 0 0)) (.val (.slice none 0 0)) (.val (.slice none 0 0)) c)]
 (.tup []) [.perm,spO (spL (.val (.slice none 0 0)) (.val (.slice none 0 0)) (.glist 2 7 ([(⟨c.port,c.pp,seq,c.inx,fl,2048,[]⟩:Sg)].map (sgG 3))) (.val (.slice none 0 0)) c),.uniq,.uniq]:=by
 have cC:=eL [] (by decide)
 dsimp only [spL]
 refine ACallL.of_ev af Tryz.func130 rfl (fun a w=>Tryz.call130 a w) (congrArg Array.toList Tryz.results130) Tryz.ntmps130 fun B hB=>?_
 ((conv=>whnf);(repeat' ((first|refine gT ?_|(with_reducible refine ab (fun _=>?_) (fun _=>?_)))<;>(conv=>whnf))))
 ((with_reducible refine qcf (fun r=>gL r []) (cC) [(0,0)] [] ?_);refine sT ?_)
 ((conv=>whnf);(repeat' ((first|refine gT ?_|(with_reducible refine ab (fun _=>?_) (fun _=>?_)))<;>(conv=>whnf))))
 (refine qcv hB [(1,1)] [(0,0),(2,3)] [(4,2)] ?_;repeat' (with_reducible first|exact trivial|refine And.intro ?_ ?_))
 all_goals (try (refine RowsRen.one ?_;(repeat (refine Cells.cons ?_ ?_;focus (first|exact .val _|exact Ren.fzS rfl rfl rfl|fail)));exact Cells.nil))
theorem wQ (c:Cn) (l:List Sg):ACallL Tryz.prog 95 [.ptr 1 0 0] [.perm,spO (spL (.val (.slice none 0 0)) (.val (.slice none 0 0)) (.glist 2 7 (l.map (sgG 3))) (.val (.slice none 0 0)) c),.perm,.perm]
 (.tup [.agg (cnL (.val (.slice none 0 0)) (.val (.slice none 0 0)) c),.glist 2 7 (l.map (sgG 3)),.val (.int .i64 0)]) [.perm,spO (spL (.val (.slice none 0 0)) (.val (.slice none 0 0)) (.glist 2 7 (l.map (sgG 3))) (.val (.slice none 0 0)) c),.perm,.perm]:=by
 dsimp only [spL,cnL]
 refine ACallL.of_ev af Tryz.func95 rfl (fun a w=>Tryz.call95 a w) (congrArg Array.toList Tryz.results95) Tryz.ntmps95 fun B hB=>?_
 ((conv=>whnf);(repeat' ((first|refine gT ?_|(with_reducible refine ab (fun _=>?_) (fun _=>?_)))<;>(conv=>whnf))))
 (refine qcv hB [(1,1)] [(0,0),(2,2),(3,3)] [] ?_;repeat' (with_reducible first|exact trivial|refine And.intro ?_ ?_))
 all_goals (try (first|exact bq rfl _|(refine RowsRen.one ?_;(repeat (refine Cells.cons ?_ ?_;focus (first|exact .val _|exact Ren.sgs rfl rfl _|fail)));exact Cells.nil)))
theorem rZ (link ip iss:Int) (m:Sg) (h:fD link ip iss m=true):ACallL Tryz.prog 115 [.val (.int .i64 link),.val (.int .i64 ip),.val (.int .i64 iss),.agg (sgR 0 m)] [.perm]
 (.tup [.agg (cnL (.val (.slice none 0 0)) (.val (.slice none 0 0)) (ce link ip iss m).c),.glist 1 7 ((ce link ip iss m).out.map (sgG 2)),.val (.int .i64 0)]) [.perm,.uniq,.uniq]:=by
 have pz:=al m.data
 have cS:=fV m
 unfold fD at h
 simp only [Bool.and_eq_true] at h
 obtain ⟨h1,h2,h3,h4,h5⟩:=h
 have h6:(bits .and .i64 m.fl 22 != 2)=false:=by
  have:=vw (xi h4)
  rw [h5.2,Bool.and_true,h5.1] at this
  simpa using this
 have h7:decide (link < 0)=false:=by simp only [am,decide_eq_true_eq] at h1;simp;omega
 have h8:decide (1099511627776 < link)=false:=by simp only [am,decide_eq_true_eq] at h1;simp;omega
 rw [h4] at cS
 unfold ce Stp.seg Cn.start
 obtain ⟨c,hc⟩ : ∃ c:Cn,c=⟨link,ip,m.sp,m.dp,1,iss,wadd iss 1,m.win,[],wadd m.seq 1,[],false,ba 3⟩:=⟨_,rfl⟩
 have cW:=wP c iss 18
 have cD:=wQ c [⟨c.port,c.pp,iss,c.inx,18,2048,[]⟩]
 subst hc
 dsimp only [sgR,sgL,spL,cnL,ba] at cS cW cD ⊢
 refine ACallL.of_ev af Tryz.func115 rfl (fun a w=>Tryz.call115 a w) (congrArg Array.toList Tryz.results115) Tryz.ntmps115 fun B hB=>?_
 ((conv=>whnf);(repeat' ((first|refine gT ?_|(with_reducible refine ab (fun _=>?_) (fun _=>?_))|((with_reducible refine qcp (gH _) ?_);refine pT ?_)|((with_reducible refine qcp (eY _) ?_);refine pT ?_)|((with_reducible refine qcp (cS) ?_);refine pT ?_)|((with_reducible refine qcp (an _ _) ?_);refine pT ?_)|((with_reducible refine qcp (aF _) ?_);refine pT ?_))<;>(conv=>whnf))))
 ((with_reducible refine qco (cW) [(1,3)] [(0,0)] [] [(2,4),(3,5)] [(3,spO (spL (.val (.slice none 0 0)) (.val (.slice none 0 0)) (.glist 4 7 ([(⟨m.dp,m.sp,iss,wadd m.seq 1,18,2048,[]⟩:Sg)].map (sgG 5))) (.val (.slice none 0 0)) (⟨link,ip,m.sp,m.dp,1,iss,wadd iss 1,m.win,[],wadd m.seq 1,[],false,ba 3⟩:Cn))),(4,.uniq),(5,.uniq)] (.tup []) ?_);refine sT ?_)
 ((conv=>whnf);(repeat' ((first|refine gT ?_|(with_reducible refine ab (fun _=>?_) (fun _=>?_)))<;>(conv=>whnf))))
 ((with_reducible refine qco (cD) [(1,3)] [(0,0),(2,4),(3,5)] [] [] [(3,spO (spL (.val (.slice none 0 0)) (.val (.slice none 0 0)) (.glist 4 7 ([(⟨m.dp,m.sp,iss,wadd m.seq 1,18,2048,[]⟩:Sg)].map (sgG 5))) (.val (.slice none 0 0)) (⟨link,ip,m.sp,m.dp,1,iss,wadd iss 1,m.win,[],wadd m.seq 1,[],false,ba 3⟩:Cn)))] (.tup [.agg (cnL (.val (.slice none 0 0)) (.val (.slice none 0 0)) (⟨link,ip,m.sp,m.dp,1,iss,wadd iss 1,m.win,[],wadd m.seq 1,[],false,ba 3⟩:Cn)),.glist 4 7 ([(⟨m.dp,m.sp,iss,wadd m.seq 1,18,2048,[]⟩:Sg)].map (sgG 5)),.val (.int .i64 0)]) ?_);refine sT ?_)
 ((conv=>whnf);(repeat' ((first|refine gT ?_|(with_reducible refine ab (fun _=>?_) (fun _=>?_)))<;>(conv=>whnf))))
 (refine qcv hB [] [(0,0),(4,1),(5,2)] [] ?_;repeat' (with_reducible first|exact trivial|refine And.intro ?_ ?_))
 all_goals (try (first|rfl|exact bq rfl _))
theorem lF {p:Prop} (h:p:=by first|((first|rfl|(refine RowsRen.one ?_;(repeat (refine Cells.cons ?_ ?_;focus (first|exact .val _|exact Ren.gg rfl _|exact Ren.ll rfl _|exact Ren.g2 rfl _|exact Ren.vnil _ _|exact Ren.vgnil _ _|exact Ren.sgs rfl rfl _|exact Ren.pgl rfl rfl _|fail)));exact Cells.nil)|exact bq rfl _|exact aI rfl _|exact aH _);done)|fail):p:=h
theorem kG (link ip iss:Int) (m:Sg) (h:fD link ip iss m=true):ACallL Tryz.prog 115 [.val (.int .i64 link),.val (.int .i64 ip),.val (.int .i64 iss),.agg (sgR 0 m)] [.perm] (stA (ce link ip iss m)) stH:=by
 have cO:=rZ link ip iss m h
 have e1:(ce link ip iss m).c.out=[]:=rfl
 have e2:(ce link ip iss m).c.parts=[]:=rfl
 obtain ⟨y,hy⟩ : ∃ r,ce link ip iss m=r:=⟨_,rfl⟩
 rw [hy] at cO e1 e2 ⊢
 have pz:=al m.data
 unfold stA
 dsimp only [sgR,sgL,cnL,cnG] at cO ⊢
 rw [e1,e2]
 refine ACallL.of_q (fun a w=>Tryz.call115 a w) fun B hB=>?_
 ((with_reducible refine qco (cO) [] [(0,0)] [] [(1,1),(2,2)] [(1,.uniq),(2,.uniq)] (.tup [.agg (cnL (.val (.slice none 0 0)) (.val (.slice none 0 0)) y.c),.glist 1 7 (y.out.map (sgG 2)),.val (.int .i64 0)]) ?_);refine sT ?_)
 (refine qcv hB [] [(0,0),(1,4),(2,5)] [] ?_;repeat' (with_reducible first|exact trivial|refine And.intro ?_ ?_))
 all_goals (try exact lF)
structure SegI (c:Cn) (m:Sg):Prop where
 ok:sgB m=true
 sp:m.sp=c.port
 dp:m.dp=c.pp
 len:m.data.length≤536
structure StI (c:Cn) (n:Nat) (y:Stp):Prop where
 port:0≤c.port∧c.port≤65535
 pp:0≤c.pp∧c.pp≤65535
 e1:y.c.link=c.link
 e2:y.c.ip=c.ip
 e3:y.c.pp=c.pp
 e4:y.c.port=c.port
 inx:0≤y.c.inx∧y.c.inx≤4294967295
 segs : ∀ m∈y.out,SegI c m
 cnt:y.out.length≤n
 told:y.told.length≤2048
theorem CnF.inx {c:Cn} (h:CnF c):0≤c.inx∧c.inx≤4294967295:=(eT h.may).1
theorem StI.start {c:Cn} (h:CnF c):StI c 0 c.start:=⟨h.port,h.pp,rfl,rfl,rfl,rfl,h.inx,fun m hm=>(by cases hm),Nat.le_refl _,by simp [Cn.start]⟩
theorem StI.start' {c c' : Cn} (h:CnF c) (e1:c'.link=c.link) (e2:c'.ip=c.ip) (e3:c'.pp=c.pp) (e4:c'.port=c.port) (e5:c'.inx=c.inx):StI c 0 c'.start:=⟨h.port,h.pp,e1,e2,e3,e4,by show 0≤c'.inx∧c'.inx≤4294967295;rw [e5];exact h.inx,fun m hm=>(by cases hm),Nat.le_refl _,by simp [Cn.start]⟩
theorem StI.le {c:Cn} {n k:Nat} {y:Stp} (h:StI c n y) (hk:n≤k):StI c k y:=⟨h.port,h.pp,h.e1,h.e2,h.e3,h.e4,h.inx,h.segs,by have:=h.cnt;omega,h.told⟩
theorem StI.put {c:Cn} {n:Nat} {y:Stp} (h:StI c n y) (c' : Cn) (e1:c'.link=y.c.link) (e2:c'.ip=y.c.ip) (e3:c'.pp=y.c.pp) (e4:c'.port=y.c.port) (e5:0≤c'.inx∧c'.inx≤4294967295):StI c n { y with c:=c' } :=
 ⟨h.port,h.pp,e1.trans h.e1,e2.trans h.e2,e3.trans h.e3,e4.trans h.e4,e5,h.segs,h.cnt,h.told⟩
theorem StI.more {c c' : Cn} {n:Nat} {y:Stp} (h:StI c n y) (m:Sg) (hm:SegI c m) (e1:c'.link=y.c.link) (e2:c'.ip=y.c.ip) (e3:c'.pp=y.c.pp) (e4:c'.port=y.c.port) (e5:c'.inx=y.c.inx):StI c (n + 1) { c:=c', out:=y.out ++ [m],told:=y.told } :=
 ⟨h.port,h.pp,e1.trans h.e1,e2.trans h.e2,e3.trans h.e3,e4.trans h.e4,by show 0≤c'.inx∧c'.inx≤4294967295;rw [e5];exact h.inx,fun x hx=>by
  rcases List.mem_append.1 hx with hx|hx
  ·exact h.segs x hx
  ·rw [List.mem_singleton.1 hx];exact hm,by have:=h.cnt;simp;omega,h.told⟩
theorem StI.segI {c:Cn} {n:Nat} {y:Stp} (h:StI c n y) {seq ack fl win:Int} {data:List Int} (hq:0≤seq∧seq≤4294967295) (ha:0≤ack∧ack≤4294967295) (hf:0≤fl∧fl≤63) (hw:0≤win∧win≤65535) (hd:data.length≤536):SegI c ⟨y.c.port,y.c.pp,seq,ack,fl,win,data⟩:=by
 refine ⟨?_,h.e4,h.e3,hd⟩
 have:=h.port
 have:=h.pp
 simp only [sgB,am,Bool.and_eq_true,decide_eq_true_eq,h.e3,h.e4]
 refine ⟨by omega,by omega,by omega,by omega,by omega,by omega,by omega⟩
theorem StI.seg {c:Cn} {n:Nat} {y:Stp} (h:StI c n y) {seq fl:Int} {data:List Int} (hq:0≤seq∧seq≤4294967295) (hf:0≤fl∧fl≤63) (hd:data.length≤536):StI c (n + 1) (y.seg seq fl data) :=
 h.more _ (h.segI hq h.inx hf (by omega) hd) rfl rfl rfl rfl rfl
theorem StI.acks {c:Cn} {n:Nat} {y:Stp} (h:StI c n y) (hq:0≤y.c.nx∧y.c.nx≤4294967295):StI c (n + 1) y.acks:=h.seg hq (by omega) (by simp)
theorem StI.shut {c:Cn} {n:Nat} {y:Stp} (h:StI c n y):StI c n y.shut:=h.put y.c.shut rfl rfl rfl rfl h.inx
theorem fY {m:Sg} (h:sgB m=true):(0≤m.sp∧m.sp≤65535)∧(0≤m.dp∧m.dp≤65535)∧(0≤m.seq∧m.seq≤4294967295)∧(0≤m.ack∧m.ack≤4294967295)∧(0≤m.fl∧m.fl≤63)∧(0≤m.win∧m.win≤65535)∧m.data.length≤1460:=by
 simpa only [sgB,am,Bool.and_eq_true,decide_eq_true_eq] using h
theorem aB {α:Type} {p:α→Prop} {b:Bool} {x y:α} (h1:b=true→p x) (h2:b=false→p y):p (bif b then x else y):=by cases b<;>simp [h1,h2]
theorem StI.ack {c:Cn} {n:Nat} {y:Stp} (h:StI c n y) {m:Sg} (hm:sgB m=true) (hq:0≤y.c.nx∧y.c.nx≤4294967295):StI c (n + 1) (y.ack m).1:=by
 obtain ⟨_,_,_,ha,_⟩:=fY hm
 have hp : ∀ c' : Cn,c'.link=y.c.link→c'.ip=y.c.ip→c'.pp=y.c.pp→c'.port=y.c.port→c'.inx=y.c.inx→StI c (n + 1) ({ y with c:=c' }):=fun c' a b d e f=>(h.put c' a b d e (by rw [f];exact h.inx)).le (by omega)
 unfold Stp.ack
 refine aB (p:=fun r:Stp × Bool=>StI c (n + 1) r.1) (fun _=>aB (p:=fun r:Stp × Bool=>StI c (n + 1) r.1) (fun _=>?_) (fun _=>?_)) (fun _=>aB (p:=fun r:Stp × Bool=>StI c (n + 1) r.1) (fun _=>?_) (fun _=>aB (p:=fun r:Stp × Bool=>StI c (n + 1) r.1) (fun _=>?_) (fun _=>aB (p:=fun r:Stp × Bool=>StI c (n + 1) r.1) (fun _=>aB (p:=fun r:Stp × Bool=>StI c (n + 1) r.1) (fun _=>?_) (fun _=>aB (p:=fun r:Stp × Bool=>StI c (n + 1) r.1) (fun _=>?_) (fun _=>aB (p:=fun r:Stp × Bool=>StI c (n + 1) r.1) (fun _=>?_) (fun _=>?_)))) (fun _=>?_))))
 ·exact hp _ rfl rfl rfl rfl rfl
 ·exact h.more (c' := y.c) _ (h.segI ha (by omega) (by omega) (by omega) (by simp)) rfl rfl rfl rfl rfl
 ·exact h.acks hq
 ·exact hp _ rfl rfl rfl rfl rfl
 ·exact hp _ rfl rfl rfl rfl rfl
 ·exact hp _ rfl rfl rfl rfl rfl
 ·exact hp _ rfl rfl rfl rfl rfl
 ·exact hp _ rfl rfl rfl rfl rfl
 ·exact hp _ rfl rfl rfl rfl rfl
theorem si (y:Stp) (m:Sg):(y.data m).c.link=y.c.link∧(y.data m).c.ip=y.c.ip∧(y.data m).c.pp=y.c.pp∧(y.data m).c.port=y.c.port∧(y.data m).out=y.out∧(y.told.length≤2048→(y.data m).told.length≤2048):=by
 unfold Stp.data
 refine aB (p:=fun r:Stp=>r.c.link=y.c.link∧r.c.ip=y.c.ip∧r.c.pp=y.c.pp∧r.c.port=y.c.port∧r.out=y.out∧(y.told.length≤2048→r.told.length≤2048)) (fun _=>?_) (fun _=>⟨rfl,rfl,rfl,rfl,rfl,id⟩)
 have ht:(y.dataIn m).told.length≤2048:=tb _ _ _ _
 unfold Stp.dataFin
 have hp : ∀ r:Stp,r.c.link=y.c.link→r.c.ip=y.c.ip→r.c.pp=y.c.pp→r.c.port=y.c.port→r.out=y.out→r.told=(y.dataIn m).told→r.c.link=y.c.link∧r.c.ip=y.c.ip∧r.c.pp=y.c.pp∧r.c.port=y.c.port∧r.out=y.out∧(y.told.length≤2048→r.told.length≤2048) :=
  fun r a b d e f g=>⟨a,b,d,e,f,fun _=>by rw [g];exact ht⟩
 have h0:=hp (y.dataIn m) rfl rfl rfl rfl rfl rfl
 refine aB (p:=fun r:Stp=>r.c.link=y.c.link∧r.c.ip=y.c.ip∧r.c.pp=y.c.pp∧r.c.port=y.c.port∧r.out=y.out∧(y.told.length≤2048→r.told.length≤2048)) (fun _=>h0) (fun _=>aB (p:=fun r:Stp=>r.c.link=y.c.link∧r.c.ip=y.c.ip∧r.c.pp=y.c.pp∧r.c.port=y.c.port∧r.out=y.out∧(y.told.length≤2048→r.told.length≤2048)) (fun _=>aB (p:=fun r:Stp=>r.c.link=y.c.link∧r.c.ip=y.c.ip∧r.c.pp=y.c.pp∧r.c.port=y.c.port∧r.out=y.out∧(y.told.length≤2048→r.told.length≤2048)) (fun _=>h0) (fun _=>aB (p:=fun r:Stp=>r.c.link=y.c.link∧r.c.ip=y.c.ip∧r.c.pp=y.c.pp∧r.c.port=y.c.port∧r.out=y.out∧(y.told.length≤2048→r.told.length≤2048)) (fun _=>?_) (fun _=>aB (p:=fun r:Stp=>r.c.link=y.c.link∧r.c.ip=y.c.ip∧r.c.pp=y.c.pp∧r.c.port=y.c.port∧r.out=y.out∧(y.told.length≤2048→r.told.length≤2048)) (fun _=>?_) (fun _=>?_)))) (fun _=>h0))
 all_goals exact hp _ rfl rfl rfl rfl rfl rfl
theorem StI.data {c:Cn} {n:Nat} {y:Stp} (h:StI c n y) (m:Sg) (hI:CnI y.c):StI c n (y.data m):=by
 obtain ⟨a,b,d,e,f,g⟩:=si y m
 exact ⟨h.port,h.pp,a.trans h.e1,b.trans h.e2,d.trans h.e3,e.trans h.e4,(jj hI m).inx,by rw [f];exact h.segs,by rw [f];exact h.cnt,g h.told⟩
theorem StI.pump1 {c:Cn} {n:Nat} {y:Stp} (h:StI c n y) (hP:PumpOk y.c):StI c (n + 1) y.pump1:=by
 have:=eD hP
 exact h.more (c' := { y.c with nx:=wadd y.c.nx y.c.pumpN }) _ (h.segI hP.nx h.inx (by omega) (by omega) (by simp;omega)) rfl rfl rfl rfl rfl
theorem StI.pumpGo {c:Cn} : ∀ (k:Nat) {n:Nat} {y:Stp}, StI c n y→PumpOk y.c→StI c (n + k) (pumpGo k y)
 | 0,n,y,h,_=>h
 | k + 1,n,y,h,hP=>by
   rw [Go.Proofs.YtceohcbokbalhaaGreat.pumpGo]
   by_cases hn:y.c.pumpN≤0
   ·rw [if_pos hn];exact h.le (by omega)
   ·rw [if_neg hn]
    exact (StI.pumpGo k (h.pump1 hP) (eC hP (by omega))).le (by omega)
theorem StI.pump {c:Cn} {n:Nat} {y:Stp} (h:StI c n y) (hI:CnI y.c) (ht:y.c.talks=true):StI c (n + y.c.out.length + 1) y.pump:=by
 have hP:=hI.pumpOk ht
 have h1:=h.pumpGo y.c.out.length hP
 obtain ⟨hP1,he⟩:=iT y.c.out.length hP
 unfold Stp.pump
 obtain ⟨z,hz⟩ : ∃ z,Go.Proofs.YtceohcbokbalhaaGreat.pumpGo y.c.out.length y=z:=⟨_,rfl⟩
 rw [hz] at h1 hP1 ⊢
 have h2:StI c (n + y.c.out.length + 1) z.pump2:=by
  unfold Stp.pump2
  by_cases hc:z.c.closing=true∧z.c.sent=z.c.len
  ·rw [if_pos hc]
   exact h1.more (c' := { z.c with nx:=wadd z.c.nx 1,st:=if z.c.st=2 then 3 else 7 }) _ (h1.segI hP1.nx h1.inx (by omega) (by omega) (by simp)) rfl rfl rfl rfl rfl
  ·rw [if_neg hc];exact h1.le (by omega)
 unfold Stp.pump3
 split
 ·exact h2.put _ rfl rfl rfl rfl h2.inx
 ·exact h2
theorem StI.late {c:Cn} {n:Nat} {y:Stp} (h:StI c n y):StI c n y.late:=by
 unfold Stp.late
 exact aB (fun _=>h.put _ rfl rfl rfl rfl h.inx) (fun _=>h)
theorem ra (y:Stp) (m:Sg):(y.ackLen m).c=y.c:=by
 unfold Stp.ackLen
 cases decide (0 < m.len)<;>rfl
theorem StI.takeMore {c:Cn} {n:Nat} {y:Stp} (h:StI c n y) (m:Sg) (hI:CnI y.c):StI c (n + 8194) (y.more m):=by
 have h1:=h.data m hI
 have hI1:=jj hI m
 unfold Stp.more
 have h2:StI c (n + 1) ((y.data m).ackLen m):=by
  unfold Stp.ackLen
  exact aB (fun _=>h1.acks hI1.nx) (fun _=>h1.le (by omega))
 have hI2:=od hI1 m
 refine StI.late ?_
 unfold Stp.pumpT
 refine aB (fun ht=>(h2.pump hI2 ht).le (by have:=hI2.len;omega)) (fun _=>h2.le (by omega))
theorem jb {c:Cn} (h:CnI c) {m:Sg} (hm:sgB m=true):StI c 8200 (c.takes m):=by
 have h0:=StI.start h.toCnF
 have hq:0≤c.start.c.nx∧c.start.c.nx≤4294967295:=h.nx
 unfold Cn.takes Stp.take
 refine aB (fun _=>h0.le (by omega)) (fun hs=>aB (fun _=>aB (fun _=>aB (fun _=>aB (fun _=>h0.le (by omega)) (fun _=>aB (fun _=>?_) (fun _=>(h0.ack hm hq).le (by omega)))) (fun _=>(h0.acks hq).le (by omega))) (fun _=>h0.shut.le (by omega))) (fun _=>aB (fun _=>aB (fun _=>?_) (fun _=>(h0.acks hq).le (by omega))) (fun _=>h0.le (by omega))))
 ·exact ((h0.ack hm hq).takeMore m (mR (x:=c.start) h hm (by simpa using hs))).le (by omega)
 ·have hz:=(h0.acks hq).put { c with tm:=ba 20 } rfl rfl rfl rfl h.inx
  exact hz.le (by omega)
theorem wo {c:Cn} {xs:List Int} (he:c.sendE xs=0):c.talks=true∧c.closing=false ∧ ¬ (8192 - (c.out.length:Int) < (xs.length:Int)):=by
 unfold Cn.sendE at he
 cases h1:c.closing<;>cases h2:c.talks<;>rw [h1,h2] at he<;>simp at he ⊢
 cases h3:decide (8192 - (c.out.length:Int) < (xs.length:Int)) with
 | true=>rw [h3] at he;simp at he
 | false=>simpa using h3
theorem xO {c:Cn} (h:CnI c) {xs:List Int} (he:c.sendE xs=0):CnI { c with out:=c.out ++ xs } ∧ ({ c with out:=c.out ++ xs } : Cn).talks=true:=by
 obtain ⟨ht,_,hl⟩:=wo he
 have hst:c.st=2∨c.st=5:=by simpa [Cn.talks] using ht
 have hlen:=h.len
 refine ⟨⟨⟨h.link,h.ip,h.pp,h.port,h.st,h.una,h.nx,h.win,by simp;omega,h.may,h.tm⟩,⟨fun e=>?_,fun e=>?_,fun e=>?_,fun e=>?_,fun _=>?_⟩⟩,ht⟩
 ·have e:c.st=0:=e;omega
 ·have e:c.st=1:=e;omega
 ·have e:c.st=4∨c.st=8:=e;omega
 ·have e:c.st=3∨c.st=6∨c.st=7:=e;omega
 ·obtain ⟨a,b⟩:=h.num.e hst
  exact ⟨a,by show c.sent≤((c.out ++ xs).length:Int);simp;omega⟩
theorem iN {c:Cn} (h:CnI c) {xs:List Int} (he:c.sendE xs=0):CnI (c.sends xs).c∧StI c 8200 (c.sends xs):=by
 obtain ⟨h1,h2⟩:=xO h he
 have hI:CnI (({ c with out:=c.out ++ xs } : Cn).start).c:=h1
 have h3:=(StI.start' (c' := { c with out:=c.out ++ xs }) h.toCnF rfl rfl rfl rfl rfl).pump hI h2
 exact ⟨nS hI h2,h3.le (by have:=hI.len;omega)⟩
theorem uq {c:Cn} (he:c.closeE=0):c.closing=false∧(c.talks || c.st == 1)=true:=by
 unfold Cn.closeE at he
 cases h1:c.closing<;>cases h2:(c.talks || c.st == 1)<;>rw [h1,h2] at he<;>simp at he ⊢
theorem rY {c:Cn} (h:CnI c) (he:c.closeE=0):CnI { c with closing:=true }:=by
 obtain ⟨_,h2⟩:=uq he
 have hst:(c.st=2∨c.st=5)∨c.st=1:=by simpa [Cn.talks] using h2
 refine ⟨⟨h.link,h.ip,h.pp,h.port,h.st,h.una,h.nx,h.win,h.len,h.may,h.tm⟩,⟨h.num.z,h.num.a,fun e=>?_,fun e=>?_,h.num.e⟩⟩
 ·have e:c.st=4∨c.st=8:=e;omega
 ·have e:c.st=3∨c.st=6∨c.st=7:=e;omega
theorem ju {c:Cn} (h:CnI c) (he:c.closeE=0):CnI c.closes.c∧StI c 8200 c.closes:=by
 have h1:=rY h he
 have h3:=StI.start' (c' := { c with closing:=true }) h.toCnF rfl rfl rfl rfl rfl
 unfold Cn.closes
 refine aB (p:=fun r:Stp=>CnI r.c∧StI c 8200 r) (fun ht=>⟨nS (x:=({ c with closing:=true } : Cn).start) h1 ht,?_⟩) (fun _=>⟨h1,h3.le (by omega)⟩)
 exact (h3.pump (y:=({ c with closing:=true } : Cn).start) h1 ht).le (by have:c.out.length≤8192:=h.len;show 0 + c.out.length + 1≤8200;omega)
theorem gF {c:Cn} (h:CnI c):CnI c.aborts.c∧StI c 8200 c.aborts:=by
 have h0:=StI.start h.toCnF
 unfold Cn.aborts Stp.abort
 exact aB (p:=fun r:Stp=>CnI r.c∧StI c 8200 r) (fun _=>⟨h.toCnF.shut,h0.shut.le (by omega)⟩) (fun _=>⟨h.toCnF.shut,(h0.seg (seq:=c.nx) (fl:=20) (data:=[]) h.nx (by omega) (by simp)).shut.le (by omega)⟩)
theorem l4 {t:Tm} (h:tmB t=true):tmB (aX t)=true:=by
 simp only [tmB,Bool.and_eq_true,decide_eq_true_eq,Bool.or_eq_true,beq_iff_eq] at h ⊢
 obtain ⟨⟨a1,a2,a3⟩,a4⟩:=h
 unfold aX
 dsimp only
 by_cases ho:t.on=true
 ·rw [if_pos ho];exact ⟨⟨by omega,by omega,a3⟩,.inl ho⟩
 ·rw [if_neg ho];exact ⟨⟨a1,a2,a3⟩,a4⟩
theorem rI {t:Tm} (h:tmB t=true) (ht:t.on=true) (h8:t.tries≠8):tmB (df t)=true:=by
 simp only [tmB,Bool.and_eq_true,decide_eq_true_eq,Bool.or_eq_true,beq_iff_eq] at h ⊢
 unfold df
 dsimp only
 exact ⟨by omega,.inl ht⟩
theorem vz {c:Cn} (h:CnI c) (h0:c.st≠0) (h8:c.st≠8):CnI c.start.again.c∧StI c 8200 c.start.again:=by
 have s0:=StI.start h.toCnF
 have es:c.start.c=c:=rfl
 have hlen:=h.len
 unfold Stp.again
 rw [es]
 refine aB (p:=fun r:Stp=>CnI r.c∧StI c 8200 r) (fun _=>⟨h,(s0.seg (seq:=c.una) (fl:=18) (data:=[]) h.una (by omega) (by simp)).le (by omega)⟩) (fun h1=>aB (p:=fun r:Stp=>CnI r.c∧StI c 8200 r) (fun _=>⟨h,(s0.seg (seq:=c.una) (fl:=24) h.una (by omega) (by simp;omega)).le (by omega)⟩) (fun _=>aB (p:=fun r:Stp=>CnI r.c∧StI c 8200 r) (fun _=>⟨h,(s0.seg (seq:=c.una) (fl:=17) (data:=[]) h.una (by omega) (by simp)).le (by omega)⟩) (fun hs=>aB (p:=fun r:Stp=>CnI r.c∧StI c 8200 r) (fun hl=>⟨?_,(s0.more (c' := { c with nx:=wadd c.nx 1 }) _ (s0.segI (seq:=c.nx) (fl:=24) (win:=2048) h.nx h.inx (by omega) (by omega) (by simp;omega)) rfl rfl rfl rfl rfl).le (by omega)⟩) (fun _=>⟨h.tm_of lg h0,(s0.put { c with tm:=tm0 } rfl rfl rfl rfl h.inx).le (by omega)⟩))))
 have hs' : ¬ 0 < c.sent:=by simpa using hs
 have hl' : 0 < (c.out.length:Int):=by simpa using hl
 have h1' : c.st≠1:=by simpa using h1
 have hst:=h.st
 have hst2:c.st=2∨c.st=5:=by
  rcases (by omega:c.st=2∨c.st=5∨(c.st=4∨c.st=8)∨(c.st=3∨c.st=6∨c.st=7)) with e|e|e|e
  ·exact .inl e
  ·exact .inr e
  ·have:=(h.num.b e).2.2;rw [this] at hl'; simp at hl'
  ·have:=(h.num.d e).2;omega
 obtain ⟨a,b⟩:=h.num.e hst2
 have hb:=dK c.nx 1
 have hsn:ah (wadd c.nx 1) c.una=c.sent + 1:=by
  unfold Cn.sent at *
  rw [iV a (by decide) (by omega)]
 refine ⟨⟨h.link,h.ip,h.pp,h.port,h.st,h.una,by show 0≤wadd c.nx 1∧wadd c.nx 1≤4294967295;omega,h.win,h.len,h.may,h.tm⟩,⟨fun e=>?_,fun e=>?_,fun e=>?_,fun e=>?_,fun _=>?_⟩⟩
 ·have e:c.st=0:=e;omega
 ·have e:c.st=1:=e;omega
 ·have e:c.st=4∨c.st=8:=e;omega
 ·have e:c.st=3∨c.st=6∨c.st=7:=e;omega
 ·show 0≤ah (wadd c.nx 1) c.una∧ah (wadd c.nx 1) c.una≤(c.out.length:Int)
  rw [hsn];omega
theorem xf {c:Cn} (h:CnI c):CnI { c with tm:=aX c.tm }:=by
 refine ⟨⟨h.link,h.ip,h.pp,h.port,h.st,h.una,h.nx,h.win,h.len,h.may,l4 h.tm⟩,⟨fun e=>?_,h.num.a,h.num.b,h.num.d,h.num.e⟩⟩
 obtain ⟨a,b,d⟩:=h.num.z e
 exact ⟨a,b,by show aX c.tm=tm0;rw [d];rfl⟩
theorem StI.of {c c' : Cn} {n:Nat} {y:Stp} (h:StI c' n y) (e1:c'.link=c.link) (e2:c'.ip=c.ip) (e3:c'.pp=c.pp) (e4:c'.port=c.port):StI c n y :=
 ⟨by rw [← e4];exact h.port,by rw [← e3];exact h.pp,h.e1.trans e1,h.e2.trans e2,h.e3.trans e3,h.e4.trans e4,h.inx,fun m hm=>⟨(h.segs m hm).ok,(h.segs m hm).sp.trans e4,(h.segs m hm).dp.trans e3,(h.segs m hm).len⟩,h.cnt,h.told⟩
theorem fm {c:Cn} (h:CnI c):CnI c.ticks.c∧StI c 8200 c.ticks:=by
 have h1:=xf h
 have s1:=(StI.start h1.toCnF).of (c:=c) rfl rfl rfl rfl
 unfold Cn.ticks
 refine aB (p:=fun r:Stp=>CnI r.c∧StI c 8200 r) (fun hr=>aB (p:=fun r:Stp=>CnI r.c∧StI c 8200 r) (fun _=>⟨h1.toCnF.shut,s1.shut.le (by omega)⟩) (fun h8=>aB (p:=fun r:Stp=>CnI r.c∧StI c 8200 r) (fun _=>?_) (fun ht=>?_))) (fun _=>⟨h1,s1.le (by omega)⟩)
 ·obtain ⟨a,b⟩:=gF h1
  exact ⟨a,b.of rfl rfl rfl rfl⟩
 ·have hon:c.tm.on=true:=by
   unfold cQ at hr
   rw [Bool.and_eq_true] at hr
   exact hr.1
  have h0:c.st≠0:=fun e=>by
   obtain ⟨_,_,d⟩:=h.num.z e
   rw [d] at hon;cases hon
  have h2:CnI ({ c with tm:=df (aX c.tm) } : Cn):=h1.tm_of (c := { c with tm:=aX c.tm }) (rI (l4 h.tm) hon (by have:=ht;simp only [beq_eq_false_iff_ne] at this;exact this)) h0
  obtain ⟨a,b⟩:=vz h2 h0 (by simpa using h8)
  exact ⟨a,b.of rfl rfl rfl rfl⟩
theorem xA {link ip iss:Int} {m:Sg} (h:fD link ip iss m=true):CnI (ce link ip iss m).c∧StI (ce link ip iss m).c 8200 (ce link ip iss m):=by
 unfold fD at h
 simp only [Bool.and_eq_true,am,decide_eq_true_eq] at h
 obtain ⟨hl,hi,hs,hm,hf⟩:=h
 obtain ⟨h1,h2,h3,h4,h5,h6,h7⟩:=fY hm
 have hb:=dK iss 1
 have hb2:=dK m.seq 1
 have hI:CnI (⟨link,ip,m.sp,m.dp,1,iss,wadd iss 1,m.win,[],wadd m.seq 1,[],false,ba 3⟩:Cn):=by
  refine ⟨⟨hl,hi,h1,h2,by show (0:Int)≤1∧(1:Int)≤8;omega,hs,by show 0≤wadd iss 1∧wadd iss 1≤4294967295;omega,h6,by simp,nU,nY⟩,⟨fun e=>?_,fun _=>?_,fun e=>?_,fun e=>?_,fun e=>?_⟩⟩
  ·exact absurd e (by show ¬ (1:Int)=0;decide)
  ·show ah (wadd iss 1) iss=1
   unfold ah wadd;omega
  ·exact absurd e (by show ¬ ((1:Int)=4∨(1:Int)=8);decide)
  ·exact absurd e (by show ¬ ((1:Int)=3∨(1:Int)=6∨(1:Int)=7);decide)
  ·exact absurd e (by show ¬ ((1:Int)=2∨(1:Int)=5);decide)
 exact ⟨hI,((StI.start hI.toCnF).seg (seq:=iss) (fl:=18) (data:=[]) hs (by omega) (by simp)).le (by omega)⟩
end Go.Proofs.YtceohcbokbalhaaGreat
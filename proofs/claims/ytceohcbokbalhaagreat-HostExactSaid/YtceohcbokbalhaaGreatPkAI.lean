/- Contracts and plain laws, one behind the other: AhHoF, AhHoI. Conditions are said at each. -/
import Derived.Test.YtceohcbokbalhaaGreatPkAH
namespace Go.Proofs.YtceohcbokbalhaaGreat
open Go.RowKit
set_option linter.unusedVariables false
set_option linter.unusedSimpArgs false
set_option maxRecDepth 100000
set_option maxHeartbeats 4000000
theorem dd {p q:Prop} (k:q) (h:Hold q→p:=by first|(intro hQ;refine And.intro ?_ ?_;(focus rfl);(conv=>whnf);(repeat (refine And.intro ?_ ?_;(focus (first|exact bA|(exact bl rfl rfl rfl _ rfl)));(conv=>whnf)));(fail_if_success (with_reducible first|refine And.intro (bz ?_) ?_|refine And.intro (bD ?_) ?_));exact hQ.out)|fail):p:=h ⟨k⟩
theorem fl18 : ∀ n:Fin 64,(bits .and .i64 ((n.val:Nat):Int) 18 != 2)=(flN ((n.val:Nat):Int) 2 || !flN ((n.val:Nat):Int) 16):=by decide +kernel
theorem sP {fl:Int} (h:0≤fl∧fl≤63):(bits .and .i64 fl 18 != 2)=(flN fl 2 || !flN fl 16):=by
 have:=fl18 ⟨fl.toNat,by omega⟩
 simpa [Int.toNat_of_nonneg h.1] using this
theorem ie {h:Ho} (H:HoI h) (ip:Int) {s:Sg} (hs:sgB s=true) :
 ((bits .and .i64 s.fl 4 != 0)=true∧h.fresh ip s=⟨h,[],[]⟩) ∨
 ((bits .and .i64 s.fl 4 != 0)=false∧h.fresh ip s=⟨h,[(ip,bm s)],[]⟩ ∧
   ((s.dp != 1883)=true∨(s.dp != 1883)=false∧(bits .and .i64 s.fl 18 != 2)=true∨(s.dp != 1883)=false∧(bits .and .i64 s.fl 18 != 2)=false∧((h.conns.length:Int) == 8)=true ∨
    (s.dp != 1883)=false∧(bits .and .i64 s.fl 18 != 2)=false∧((h.conns.length:Int) == 8)=false∧decide (4≤(synN h.conns:Int))=true ∨
    (s.dp != 1883)=false∧(bits .and .i64 s.fl 18 != 2)=false∧((h.conns.length:Int) == 8)=false∧decide (4≤(synN h.conns:Int))=false∧(h.count == 1099511627776)=true)) ∨
 ((bits .and .i64 s.fl 4 != 0)=false∧h.fresh ip s=h.more ip s∧(s.dp != 1883)=false∧(bits .and .i64 s.fl 18 != 2)=false∧((h.conns.length:Int) == 8)=false∧decide (4≤(synN h.conns:Int))=false∧(h.count == 1099511627776)=false):=by
 have hfl:=(fY hs).2.2.2.2.1
 have e18:=sP hfl
 have e4:(bits .and .i64 s.fl 4 != 0) = !flN s.fl 4:=rfl
 have e8:((h.conns.length:Int) == 8)=decide (8≤h.conns.length):=by
  have:=H.len
  rw [Bool.eq_iff_iff,beq_iff_eq,decide_eq_true_eq];omega
 have e5:decide (4≤(synN h.conns:Int))=decide (4≤synN h.conns):=by rw [decide_eq_decide];omega
 have e1:(s.dp != 1883) = !(s.dp == 1883):=rfl
 rw [e18,e4,e8,e5,e1]
 unfold Ho.fresh
 generalize flN s.fl 4=v1
 generalize (s.dp == 1883)=v2
 generalize flN s.fl 2=v3
 generalize flN s.fl 16=v4
 generalize decide (8≤h.conns.length)=v5
 generalize decide (4≤synN h.conns)=v6
 generalize (h.count == 1099511627776)=v7
 cases v1<;>cases v2<;>cases v3<;>cases v4<;>cases v5<;>cases v6<;>cases v7<;>simp
theorem kV {h:Ho} (H:HoI h) {ip:Int} (hip:0≤ip∧ip≤4294967295) {s:Sg} (hs:sgB s=true) (h4:(bits .and .i64 s.fl 4 != 0)=false) (h18:(bits .and .i64 s.fl 18 != 2)=false) (hc:(h.count == 1099511627776)=false) :
 fD (h.count + 1) ip (wadd 0 (64000 * (h.count + 1))) s=true:=by
 have hfl:=(fY hs).2.2.2.2.1
 have hcb:=H.count
 rw [sP hfl] at h18
 simp only [Bool.or_eq_false_iff,Bool.not_eq_false', beq_eq_false_iff_ne] at h18 hc
 have h4' : flN s.fl 4=true:=by
  have:(!flN s.fl 4)=false:=h4
  simpa using this
 have b1:am (h.count + 1) 1099511627776=true:=by simp only [am,decide_eq_true_eq];omega
 have b2:am ip 4294967295=true:=by simp only [am,decide_eq_true_eq];omega
 have b3:am (wadd 0 (64000 * (h.count + 1))) 4294967295=true:=by have:=dK 0 (64000 * (h.count + 1));simp only [am,decide_eq_true_eq];omega
 unfold fD
 rw [b1,b2,b3,hs,h18.1,rX hfl,h18.2,h4']
 rfl
abbrev snN (p:Int × Sg):List AV := .val (.int .i64 p.1)::sgL (.val (.slice none 0 0)) p.2
theorem eo {p:Prop} (h:p:=by first|((first|rfl|(exact ao)|exact p9 _ rfl|exact aK rfl rfl rfl _|exact bf rfl _);done)|fail):p:=h
theorem uN (l:List Cn) (count ip:Int) (s:Sg) (H:HoI ⟨l,count⟩) (hs:sgB s=true) (hno:(Ho.fresh ⟨l,count⟩ ip s).h=⟨l,count⟩) (hno2:(Ho.fresh ⟨l,count⟩ ip s).out≠(Ho.more ⟨l,count⟩ ip s).out) :
 ACallL Tryz.prog 74 [.ptr 1 0 0,.val (.int .i64 ip),.agg (sgR 0 s)] [.perm,hoB 2 l.length count,cnB' (l.map (cnG 3 4 5)),.perm,.perm,.perm] (.glist 6 8 ((Ho.fresh ⟨l,count⟩ ip s).out.map snN))
  [.perm,hoB 2 l.length count,cnB' (l.map (cnG 3 4 5)),.perm,.perm,.perm,.uniq]:=by
 have hd:=(fY hs).2.2.2.2.2.2
 have cR:=nq s (by omega)
 have hl:=H.len
 have cO:=fX ⟨l,count⟩ (by omega)
 have cT:=vj ip (bm s)
 have pz:=al s.data
 have ways:=ie H ip hs
 obtain ⟨r,hr⟩ : ∃ r,Ho.fresh ⟨l,count⟩ ip s=r:=⟨_,rfl⟩
 rw [hr] at ways hno hno2 ⊢
 dsimp only [hoR,sgR,sgL] at cO cR ⊢
 rcases ways with ⟨w1,rfl⟩|⟨w1,rfl,w⟩|⟨w1,rfl,w⟩
 ·refine ACallL.of_ev af Tryz.func74 rfl (fun a w=>Tryz.call74 a w) (congrArg Array.toList Tryz.results74) Tryz.ntmps74 fun B hB=>?_
  ((conv=>whnf);(repeat' ((first|refine gT ?_|((with_reducible refine ai ?_ ?_);focus (simp;done))|((with_reducible refine aj ?_ ?_);focus (simp;done))|(with_reducible refine ab (fun _=>?_) (fun _=>?_)))<;>(conv=>whnf))))
  (refine qcv hB [(1,1),(2,2)] [(0,0),(3,3),(4,4),(5,5)] [] ?_;repeat' (with_reducible first|exact trivial|refine And.intro ?_ ?_))
  all_goals (try exact eo)
 ·rcases w with w|⟨w2,w3⟩|⟨w2,w3,w4⟩|⟨w2,w3,w4,w5⟩|⟨w2,w3,w4,w5,w6⟩
  all_goals
   refine ACallL.of_ev af Tryz.func74 rfl (fun a w=>Tryz.call74 a w) (congrArg Array.toList Tryz.results74) Tryz.ntmps74 fun B hB=>?_
   ((conv=>whnf);(repeat' ((first|refine gT ?_|((with_reducible refine ai ?_ ?_);focus (simp;done))|((with_reducible refine aj ?_ ?_);focus (simp;done))|(with_reducible refine ab (fun _=>?_) (fun _=>?_))|(((with_reducible refine qcr (cR) [(0,0)] [] ?_);refine dd ?_))|(((with_reducible refine qcr (cO) [(0,0),(0,3),(0,4),(0,5)] [(0,2)] ?_);refine dd ?_))|(((with_reducible refine qco (cT) [] [(0,0)] [(1,7)] [(2,8)] [(8,.uniq)] (.glist 8 8 [.val (.int .i64 ip)::sgL (.val (.slice none 0 0)) (bm s)]) ?_);refine dd ?_)))<;>(conv=>whnf))))
   simp only [List.map_cons,List.map_nil,snN]
   (refine qcv hB [(1,1),(2,2)] [(0,0),(3,3),(4,4),(5,5),(8,6)] [] ?_;repeat' (with_reducible first|exact trivial|refine And.intro ?_ ?_))
   all_goals (try exact eo)
 ·exact absurd rfl hno2
theorem mq {count:Int} (h:0≤count∧count≤1099511627776):bits .and .i64 (IntKind.i64.wrap (64000 * IntKind.i64.wrap (count + 1))) 4294967295=wadd 0 (64000 * (count + 1)):=by
 rw [IntWalk.i64_in (count + 1) (by omega),IntWalk.i64_in _ (by omega),mM,wadd,Int.zero_add]
theorem qv (l:List Cn) (count ip:Int) (s:Sg) (H:HoI ⟨l,count⟩) (hip:0≤ip∧ip≤4294967295) (hs:sgB s=true) (y:Stp) (hy:ce (count + 1) ip (wadd 0 (64000 * (count + 1))) s=y)
 (w1:(bits .and .i64 s.fl 4 != 0)=false) (w2:(s.dp != 1883)=false) (w3:(bits .and .i64 s.fl 18 != 2)=false) (w4:((l.length:Int) == 8)=false) (w5:decide (4≤(synN l:Int))=false) (w6:(count == 1099511627776)=false) :
 ACallL Tryz.prog 74 [.ptr 1 0 0,.val (.int .i64 ip),.agg (sgR 0 s)] [.perm,hoB 2 l.length count,cnB' (l.map (cnG 3 4 5)),.perm,.perm,.perm] (.glist 6 8 ((toS ip y.out).map (snG 7)))
  [.perm,hoB 8 (l.length + 1) (count + 1),.dead,.perm,.perm,.perm,.uniq,.uniq,cnB' (l.map (cnG 3 4 5) ++ [cnG 9 10 11 y.c]),.uniq,.uniq,.uniq]:=by
 have hl:=H.len
 have hc:=H.count
 dsimp only at hl hc
 have cO:=fX ⟨l,count⟩ (by dsimp only;omega)
 have e1:=mq hc
 have wc:IntKind.i64.wrap (count + 1)=count + 1:=IntWalk.i64_in _ (by omega)
 have hop:=kV H hip hs w1 w3 w6
 have cP:=kG _ _ _ _ hop
 dsimp only at cP
 rw [hy] at cP
 have hlen:y.out.length=1:=by rw [← hy];rfl
 have cT:=to_l ip y.out (by omega)
 have pz:=al s.data
 have cP' : ∀ a b,a=count + 1→b=wadd 0 (64000 * (count + 1))→ACallL Tryz.prog 115 [.val (.int .i64 a),.val (.int .i64 ip),.val (.int .i64 b),.agg (sgR 0 s)] [.perm] (stA y) stH:=fun a b ea eb=>by rw [ea,eb];exact cP
 clear cP
 have hap:(l.length + 1) * 160≤140737488355328:=by omega
 dsimp only [hoR,sgR,sgL,stA] at cO cP' ⊢
 refine ACallL.of_ev af Tryz.func74 rfl (fun a w=>Tryz.call74 a w) (congrArg Array.toList Tryz.results74) Tryz.ntmps74 fun B hB=>?_
 ((conv=>whnf);(repeat' ((first|refine gT ?_|((with_reducible refine ai ?_ ?_);focus (simp;done))|((with_reducible refine aj ?_ ?_);focus (simp;done))|(with_reducible refine ab (fun _=>?_) (fun _=>?_))|(((with_reducible refine qcr (cO) [(0,0),(0,3),(0,4),(0,5)] [(0,2)] ?_);refine dd ?_))|(((with_reducible refine qco ((cP' _ _ wc e1)) [] [(0,0)] [] [(1,7),(2,8),(3,9),(4,10),(5,11)] [(7,.uniq),(8,.uniq),(9,.uniq),(10,.uniq),(11,.uniq)] (.tup [.agg (cnG 7 8 9 y.c),.glist 10 7 (y.out.map (sgG 11)),.val (.int .i64 0)]) ?_);refine dd ?_))|(refine ak (apS1 (nb:=160) rfl rfl rfl rfl rfl rfl rfl rfl rfl rfl ⟨Nat.zero_lt_succ _,Nat.zero_lt_succ _,rfl⟩ rfl ⟨rfl,rfl,by simp⟩ (iv 3 4 5 l) hap) ?_)|(((with_reducible refine qco (cT) [] [(0,0),(1,10),(2,11)] [] [(3,15)] [(15,.uniq)] (.glist 15 8 ((toS ip y.out).map (snG 11))) ?_);refine dd ?_)))<;>(conv=>whnf))))
 (refine qcv hB [(1,1),(14,8)] [(0,0),(3,3),(4,4),(5,5),(15,6),(11,7),(7,9),(8,10),(9,11)] [] ?_;repeat' (with_reducible first|exact trivial|refine And.intro ?_ ?_))
 all_goals first|rfl|exact RowsRen.app (aK rfl rfl rfl _) (RowsRen.one (fb rfl rfl rfl _))|exact bf rfl _|(exact ao)|(rw [wc];(exact ao))
abbrev hoB0 (b:Nat) (count:Int):Own := .live ⟨2,24,[[.glist b 16 [],.val (.int .i64 count)]]⟩
theorem rt (count ip:Int) (s:Sg) (H:HoI ⟨[],count⟩) (hs:sgB s=true) (hno:(Ho.fresh ⟨[],count⟩ ip s).h=⟨[],count⟩) (hno2:(Ho.fresh ⟨[],count⟩ ip s).out≠(Ho.more ⟨[],count⟩ ip s).out) :
 ACallL Tryz.prog 74 [.ptr 1 0 0,.val (.int .i64 ip),.agg (sgR 0 s)] [.perm,hoB0 2 count,.uniq] (.glist 3 8 ((Ho.fresh ⟨[],count⟩ ip s).out.map snN))
  [.perm,hoB0 2 count,.uniq,.uniq]:=by
 have hd:=(fY hs).2.2.2.2.2.2
 have cR:=nq s (by omega)
 have hl:=H.len
 have cO:=fX ⟨[],count⟩ (by omega)
 have cT:=vj ip (bm s)
 have pz:=al s.data
 have ways:=ie H ip hs
 obtain ⟨r,hr⟩ : ∃ r,Ho.fresh ⟨[],count⟩ ip s=r:=⟨_,rfl⟩
 rw [hr] at ways hno hno2 ⊢
 dsimp only [hoR,sgR,sgL] at cO cR ⊢
 rcases ways with ⟨w1,rfl⟩|⟨w1,rfl,w⟩|⟨w1,rfl,w⟩
 ·refine ACallL.of_ev af Tryz.func74 rfl (fun a w=>Tryz.call74 a w) (congrArg Array.toList Tryz.results74) Tryz.ntmps74 fun B hB=>?_
  ((conv=>whnf);(repeat' ((first|refine gT ?_|((with_reducible refine ai ?_ ?_);focus (simp;done))|((with_reducible refine aj ?_ ?_);focus (simp;done))|(with_reducible refine ab (fun _=>?_) (fun _=>?_)))<;>(conv=>whnf))))
  (refine qcv hB [(1,1)] [(0,0),(2,2)] [] ?_;repeat' (with_reducible first|exact trivial|refine And.intro ?_ ?_))
  all_goals (try exact eo)
 ·rcases w with w|⟨w2,w3⟩|⟨w2,w3,w4⟩|⟨w2,w3,w4,w5⟩|⟨w2,w3,w4,w5,w6⟩
  rotate_left 2
  ·exact absurd (show (((0:Nat):Int) == 8)=true from w4) (by decide)
  ·exact absurd (show decide (4≤((0:Nat):Int))=true from w5) (by decide)
  all_goals
   refine ACallL.of_ev af Tryz.func74 rfl (fun a w=>Tryz.call74 a w) (congrArg Array.toList Tryz.results74) Tryz.ntmps74 fun B hB=>?_
   ((conv=>whnf);(repeat' ((first|refine gT ?_|((with_reducible refine ai ?_ ?_);focus (simp;done))|((with_reducible refine aj ?_ ?_);focus (simp;done))|(with_reducible refine ab (fun _=>?_) (fun _=>?_))|(((with_reducible refine qcr (cR) [(0,0)] [] ?_);refine dd ?_))|(((with_reducible refine qcr (cO) [(0,0),(0,2)] [] ?_);refine dd ?_))|(((with_reducible refine qco (cT) [] [(0,0)] [(1,4)] [(2,5)] [(5,.uniq)] (.glist 5 8 [.val (.int .i64 ip)::sgL (.val (.slice none 0 0)) (bm s)]) ?_);refine dd ?_)))<;>(conv=>whnf))))
   simp only [List.map_cons,List.map_nil,snN]
   (refine qcv hB [(1,1)] [(0,0),(2,2),(5,3)] [] ?_;repeat' (with_reducible first|exact trivial|refine And.intro ?_ ?_))
   all_goals (try exact eo)
 ·exact absurd rfl hno2
theorem oI (count ip:Int) (s:Sg) (H:HoI ⟨[],count⟩) (hip:0≤ip∧ip≤4294967295) (hs:sgB s=true) (y:Stp) (hy:ce (count + 1) ip (wadd 0 (64000 * (count + 1))) s=y)
 (w1:(bits .and .i64 s.fl 4 != 0)=false) (w2:(s.dp != 1883)=false) (w3:(bits .and .i64 s.fl 18 != 2)=false) (w6:(count == 1099511627776)=false) :
 ACallL Tryz.prog 74 [.ptr 1 0 0,.val (.int .i64 ip),.agg (sgR 0 s)] [.perm,hoB0 2 count,.uniq] (.glist 3 8 ((toS ip y.out).map (snG 4)))
  [.perm,.live ⟨2,24,[[.glist 5 16 [cnG 6 7 8 y.c],.val (.int .i64 (count + 1))]]⟩,.dead,.uniq,.uniq,.uniq,.uniq,.uniq,.uniq]:=by
 have hl:=H.len
 have hc:=H.count
 dsimp only at hl hc
 have cO:=fX ⟨[],count⟩ (by dsimp only;omega)
 have e1:=mq hc
 have wc:IntKind.i64.wrap (count + 1)=count + 1:=IntWalk.i64_in _ (by omega)
 have hop:=kV H hip hs w1 w3 w6
 have cP:=kG _ _ _ _ hop
 dsimp only at cP
 rw [hy] at cP
 have hlen:y.out.length=1:=by rw [← hy];rfl
 have cT:=to_l ip y.out (by omega)
 have pz:=al s.data
 have cP' : ∀ a b,a=count + 1→b=wadd 0 (64000 * (count + 1))→ACallL Tryz.prog 115 [.val (.int .i64 a),.val (.int .i64 ip),.val (.int .i64 b),.agg (sgR 0 s)] [.perm] (stA y) stH:=fun a b ea eb=>by rw [ea,eb];exact cP
 clear cP
 dsimp only [hoR,sgR,sgL,stA] at cO cP' ⊢
 refine ACallL.of_ev af Tryz.func74 rfl (fun a w=>Tryz.call74 a w) (congrArg Array.toList Tryz.results74) Tryz.ntmps74 fun B hB=>?_
 ((conv=>whnf);(repeat' ((first|refine gT ?_|((with_reducible refine ai ?_ ?_);focus (simp;done))|((with_reducible refine aj ?_ ?_);focus (simp;done))|(with_reducible refine ab (fun _=>?_) (fun _=>?_))|(((with_reducible refine qcr (cO) [(0,0),(0,2)] [] ?_);refine dd ?_))|(((with_reducible refine qco ((cP' _ _ wc e1)) [] [(0,0)] [] [(1,4),(2,5),(3,6),(4,7),(5,8)] [(4,.uniq),(5,.uniq),(6,.uniq),(7,.uniq),(8,.uniq)] (.tup [.agg (cnG 4 5 6 y.c),.glist 7 7 (y.out.map (sgG 8)),.val (.int .i64 0)]) ?_);refine dd ?_))|(refine ak (apG (nb:=160) rfl rfl rfl rfl rfl rfl rfl rfl rfl rfl ⟨Nat.zero_lt_succ _,Nat.zero_lt_succ _,rfl⟩ rfl (by decide)) ?_)|(((with_reducible refine qco (cT) [] [(0,0),(1,7),(2,8)] [] [(3,12)] [(12,.uniq)] (.glist 12 8 ((toS ip y.out).map (snG 8))) ?_);refine dd ?_)))<;>(conv=>whnf))))
 (refine qcv hB [(1,1)] [(0,0),(12,3),(8,4),(11,5),(4,6),(5,7),(6,8)] [] ?_;repeat' (with_reducible first|exact trivial|refine And.intro ?_ ?_))
 all_goals first|rfl|(rw [wc];exact vf _ rfl rfl rfl rfl _)|exact RowsRen.one (fb rfl rfl rfl _)|exact bf rfl _|(exact ao)|(rw [wc];(exact ao))
abbrev sgB1 (row:List AV):Own := .live ⟨7,39,[row]⟩
abbrev inB1 (n:Int):Own := .live ⟨1,3,[[.val (.int .i64 n)]]⟩
theorem xR (c:Cn) (ip:Int) (s:Sg):ACallL Tryz.prog 73 [.agg (cnR 0 c),.ptr 1 0 0,.ptr 2 0 0] [.perm,sgB1 (sgR 3 s),inB1 ip,.perm] (.val (.bool (hisB ip s c))) [.perm,sgB1 (sgR 3 s),inB1 ip,.perm]:=by
 have px:=al c.out
 have py:=ar c.parts
 have pz:=al s.data
 unfold hisB
 dsimp only [cnR,cnL,sgR,sgL]
 obtain ⟨b1,h1⟩ : ∃ b,(s.dp == 1883)=b:=⟨_,rfl⟩
 obtain ⟨b2,h2⟩ : ∃ b,(c.ip == ip)=b:=⟨_,rfl⟩
 obtain ⟨b3,h3⟩ : ∃ b,(c.pp == s.sp)=b:=⟨_,rfl⟩
 rw [h1,h2,h3]
 cases b1<;>cases b2<;>cases b3
 all_goals
  refine ACallL.of_ev af Tryz.func73 rfl (fun a w=>Tryz.call73 a w) (congrArg Array.toList Tryz.results73) Tryz.ntmps73 fun B hB=>?_
  ((conv=>whnf);(repeat' ((first|refine gT ?_|((with_reducible refine ai ?_ ?_);focus (simp;done))|((with_reducible refine aj ?_ ?_);focus (simp;done))|(with_reducible refine ab (fun _=>?_) (fun _=>?_)))<;>(conv=>whnf))))
  all_goals (refine qcv hB [(1,1),(2,2)] [(0,0),(3,3)] [] ?_;repeat' (with_reducible first|exact trivial|refine And.intro ?_ ?_))
  all_goals first|rfl|(exact ao)|(rw [h1];rfl)|(rw [h2];rfl)|(rw [h3];rfl)
def idxI:Option Nat→Int
 | some i=>i
 | none => -1
theorem ww {p:Cn→Bool} {l:List Cn} {k:Nat} {c:Cn} (h : ∀ j d,j < k→l[j]?=some d→p d=false) (hk:l[k]?=some c) (hc:p c=true):l.findIdx? p=some k:=by
 obtain ⟨hlt,e⟩:=List.getElem?_eq_some_iff.1 hk
 rw [List.findIdx?_eq_some_iff_getElem]
 refine ⟨hlt,by rw [e];exact hc,fun j hj=>?_⟩
 have:=h j l[j] hj (List.getElem?_eq_getElem (by omega))
 rw [this]
 decide
theorem qM {p:Cn→Bool} {l:List Cn} (h : ∀ j d,j < l.length→l[j]?=some d→p d=false):l.findIdx? p=none:=by
 rw [List.findIdx?_eq_none_iff]
 intro d hd
 obtain ⟨j,hj⟩:=List.getElem?_of_mem hd
 exact h j d (List.getElem?_eq_some_iff.1 hj).1 hj
theorem pQ (l:List Cn) (ip:Int) (s:Sg) (hl:l.length≤100000):ACallL Tryz.prog 72 [.list 0 16 (l.map (cnR 0)),.clo 73 [.ptr 1 0 0,.ptr 2 0 0]] [.perm,sgB1 (sgR 3 s),inB1 ip,.perm]
 (.val (.int .i64 (idxI (l.findIdx? (hisB ip s))))) [.perm,sgB1 (sgR 3 s),inB1 ip,.perm]:=by
 have px:=aQ l
 have pz:=al s.data
 have ll:(l.map (cnR 0)).length=l.length:=by simp
 refine ACallL.of_ev af Tryz.func72 rfl (fun a w=>Tryz.call72 a w) (congrArg Array.toList Tryz.results72) Tryz.ntmps72 fun B hB=>?_
 ((conv=>whnf);(repeat' ((first|refine gT ?_|(with_reducible refine ab (fun _=>?_) (fun _=>?_)))<;>(conv=>whnf))))
 refine qAW.loopE af (X:=Nat) (fun k=>ap 19 [(0,.list 0 16 (l.map (cnR 0))),(1,.clo 73 [.ptr 1 0 0,.ptr 2 0 0]),(7,.val (.int .i64 (l.map (cnR 0)).length)),(8,.val (.int .i64 k))]) (fun k=>[.perm,sgB1 (sgR 3 s),inB1 ip,.perm])
  (fun k=>k≤l.length ∧ ∀ j d,j < k→l[j]?=some d→hisB ip s d=false) (fun k=>l.length - k) 0 ⟨Nat.zero_le _,fun j d h=>by omega⟩ ?_ ?_
 ·(refine qcv hB [(1,1),(2,2)] [(0,0),(3,3)] [] ?_;repeat' (with_reducible first|exact trivial|refine And.intro ?_ ?_))
  all_goals first|rfl|(exact ao)
 ·rintro E k ⟨hk,hno⟩ hE
  by_cases hlt:k < l.length
  ·obtain ⟨c,hc⟩ : ∃ p,l[k]?=some p:=⟨_,List.getElem?_eq_getElem hlt⟩
   have hrow:(l.map (cnR 0))[(k:Int).toNat]?=some (cnR 0 c):=by simp [hc]
   have p1:=al c.out
   have p2:=ar c.parts
   have w:=IntWalk.i64_in (k + 1) (by omega)
   have cH:=xR c ip s
   obtain ⟨b,hb⟩ : ∃ b,hisB ip s c=b:=⟨_,rfl⟩
   rw [hb] at cH
   cases b with
   | true =>
     have hf:=ww hno hc hb
     rw [hf] at hE
     subst hE
     ((conv=>whnf);(repeat' ((first|refine gT ?_|((with_reducible refine ai ?_ ?_);focus (simp [hlt];done))|((with_reducible refine aj ?_ ?_);focus (simp [hlt];done))|(with_reducible refine ab (fun _=>?_) (fun _=>?_))|(refine ak (idxL rfl rfl rfl rfl rfl rfl (by omega) hrow) ?_)|(((with_reducible refine qco (cH) [(1,1),(2,2)] [(0,0),(3,3)] [] [] [(1,sgB1 (sgR 3 s)),(2,inB1 ip)] (.val (.bool true)) ?_);refine sT ?_)))<;>(conv=>whnf))))
     (refine qcv hB [(1,1),(2,2)] [(0,0),(3,3)] [] ?_;repeat' (with_reducible first|exact trivial|refine And.intro ?_ ?_))
     all_goals first|rfl|(exact ao)
   | false =>
     subst hE
     ((conv=>whnf);(repeat' ((first|refine gT ?_|((with_reducible refine ai ?_ ?_);focus (simp [hlt];done))|((with_reducible refine aj ?_ ?_);focus (simp [hlt];done))|(with_reducible refine ab (fun _=>?_) (fun _=>?_))|(refine ak (idxL rfl rfl rfl rfl rfl rfl (by omega) hrow) ?_)|(((with_reducible refine qco (cH) [(1,1),(2,2)] [(0,0),(3,3)] [] [] [(1,sgB1 (sgR 3 s)),(2,inB1 ip)] (.val (.bool false)) ?_);refine sT ?_)))<;>(conv=>whnf))))
     refine ⟨k + 1,⟨by omega,fun j d hj hd=>?_⟩,by omega,?_⟩
     ·by_cases e:j=k
      ·subst e;rw [hc] at hd;cases hd;exact hb
      ·exact hno j d (by omega) hd
     ·(refine qcv hB [(1,1),(2,2)] [(0,0),(3,3)] [] ?_;repeat' (with_reducible first|exact trivial|refine And.intro ?_ ?_))
      all_goals first|rfl|(simp [w];done)|(exact ao)
  ·have e:k=l.length:=by omega
   subst e
   have hf:=qM hno
   rw [hf] at hE
   subst hE
   ((conv=>whnf);(repeat' ((first|refine gT ?_|((with_reducible refine ai ?_ ?_);focus (simp [hlt];done))|((with_reducible refine aj ?_ ?_);focus (simp [hlt];done))|(with_reducible refine ab (fun _=>?_) (fun _=>?_)))<;>(conv=>whnf))))
   (refine qcv hB [(1,1),(2,2)] [(0,0),(3,3)] [] ?_;repeat' (with_reducible first|exact trivial|refine And.intro ?_ ?_))
   all_goals first|rfl|(exact ao)
end Go.Proofs.YtceohcbokbalhaaGreat
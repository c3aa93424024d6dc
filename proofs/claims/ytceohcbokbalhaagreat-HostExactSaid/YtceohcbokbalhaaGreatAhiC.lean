/- My own way of reckoning with data: a heap of names over the machine's heap, the laws of its change, what code comes to on it. No condition. -/
import Derived.Test.YtceohcbokbalhaaGreatAhiB
import Derived.Laws.StructEq
import Derived.Lib.SliceRun
import Derived.Laws.IdiomStrings
namespace Go.Proofs.YtceohcbokbalhaaGreat
open Go.RowKit
set_option linter.unusedVariables false
set_option linter.unusedSimpArgs false
def frcL {α:Type} : List α→(List α→Prop)→Prop
 | [],K=>K []
 | x::xs,K=>frcL xs fun ys=>K (x::ys)
theorem ca {α:Type} : ∀ (l:List α) (K:List α→Prop),frcL l K=K l
 | [],K=>rfl
 | x::xs,K=>ca xs _
def frcT:List Nat:=[0,1,2,3,4,5,6,7,8,9,10,11,12,13,14,15,16,17,18,19,20,21,22,23,24,25,26,27,28,29,30,31,32,33,34,35,36,37,38,39,40,41,42,43,44,45,46,47]
def frcE (n:Nat) (K:Nat→Prop):Prop:=match n with|0=>K 0|m + 1=>K (m + 1)
theorem pj (n:Nat) (K:Nat→Prop):frcE n K=K n:=by cases n<;>rfl
def mU (n:Nat) (K:Nat→Prop):List Nat→Prop
 | []=>frcE n K
 | x::xs=>match decEq n x with
   | .isTrue _=>K x
   | .isFalse _=>mU n K xs
def frcN (n:Nat) (K:Nat→Prop):Prop:=mU n K frcT
theorem jp (n:Nat) (K:Nat→Prop):frcN n K=K n:=by
 have : ∀ l,mU n K l=K n:=by
  intro l
  induction l with
  | nil=>exact pj n K
  | cons x xs ih =>
    unfold mU
    split
    ·rename_i h _;rw [h]
    ·exact ih
 exact this _
def cg:List Nat→(List Nat→Prop)→Prop
 | [],K=>K []
 | x::xs,K=>frcN x fun x=>cg xs fun ys=>K (x::ys)
theorem iE : ∀ (l:List Nat) (K:List Nat→Prop),cg l K=K l
 | [],K=>rfl
 | x::xs,K=>by unfold cg;rw [jp,iE xs]
def mQ:AV→(AV→Prop)→Prop
 | .any,K=>K .any
 | .val (.int k n),K=>K (.val (.int k n))
 | .val (.bool b),K=>K (.val (.bool b))
 | .val v,K=>K (.val v)
 | .agg cs,K=>K (.agg cs)
 | .tup cs,K=>K (.tup cs)
 | .ptr b i j,K=>frcN b fun b=>frcN j fun j=>K (.ptr b i j)
 | .sl b i n,K=>frcN b fun b=>K (.sl b i n)
 | .list r sz rows,K=>frcN r fun r=>K (.list r sz rows)
 | .glist r sz rows,K=>frcN r fun r=>K (.glist r sz rows)
 | .lptr r row j,K=>frcN j fun j=>K (.lptr r row j)
 | .clo f caps,K=>K (.clo f caps)
theorem nQ (v:AV) (K:AV→Prop):mQ v K=K v:=by
 cases v with
 | val u=>cases u<;>rfl
 | _=>simp only [mQ,jp]
def ga:List AV→(List AV→Prop)→Prop
 | [],K=>K []
 | x::xs,K=>mQ x fun x=>ga xs fun ys=>K (x::ys)
theorem ik : ∀ (l:List AV) (K:List AV→Prop),ga l K=K l
 | [],K=>rfl
 | x::xs,K=>by unfold ga;rw [nQ,ik xs]
def frcV:AV→(AV→Prop)→Prop
 | .agg cs,K=>ga cs fun cs=>K (.agg cs)
 | .tup cs,K=>ga cs fun cs=>K (.tup cs)
 | .clo f caps,K=>ga caps fun caps=>K (.clo f caps)
 | v,K=>mQ v K
theorem pE (v:AV) (K:AV→Prop):frcV v K=K v:=by
 cases v<;>simp only [frcV,nQ,ik]
def ch:List AV→(List AV→Prop)→Prop
 | [],K=>K []
 | x::xs,K=>frcV x fun x=>ch xs fun ys=>K (x::ys)
theorem bH : ∀ (l:List AV) (K:List AV→Prop),ch l K=K l
 | [],K=>rfl
 | x::xs,K=>by unfold ch;rw [pE,bH xs]
def frcW:AV→(AV→Prop)→Prop
 | .tup cs,K=>ch cs fun cs=>K (.tup cs)
 | v,K=>frcV v K
theorem dI (v:AV) (K:AV→Prop):frcW v K=K v:=by
 cases v<;>simp only [frcW,pE,bH]
def kZ:List (List AV)→(List (List AV)→Prop)→Prop
 | [],K=>K []
 | x::xs,K=>ga x fun x=>kZ xs fun ys=>K (x::ys)
theorem jX : ∀ (l:List (List AV)) (K:List (List AV)→Prop),kZ l K=K l
 | [],K=>rfl
 | x::xs,K=>by unfold kZ;rw [ik,jX xs]
def frcO:Own→(Own→Prop)→Prop
 | .live ⟨sz,e,rows⟩,K=>frcN sz fun sz=>frcE e fun e=>kZ rows fun rows=>K (.live ⟨sz,e,rows⟩)
 | .unused,K=>K .unused
 | .dead,K=>K .dead
 | .perm,K=>K .perm
 | .uniq,K=>K .uniq
theorem pu (o:Own) (K:Own→Prop):frcO o K=K o:=by
 cases o with
 | live b=>cases b;simp only [frcO,jX,jp,pj]
 | _=>rfl
def cw:List Own→(List Own→Prop)→Prop
 | [],K=>K []
 | x::xs,K=>frcO x fun x=>cw xs fun ys=>K (x::ys)
theorem bZ : ∀ (l:List Own) (K:List Own→Prop),cw l K=K l
 | [],K=>rfl
 | x::xs,K=>by unfold cw;rw [pu,bZ xs]
def eN:List (Nat × Own)→(List (Nat × Own)→Prop)→Prop
 | [],K=>K []
 | (n,o)::T,K=>frcN n fun n=>frcO o fun o=>eN T fun T=>K ((n,o)::T)
theorem ko : ∀ (l:List (Nat × Own)) (K:List (Nat × Own)→Prop),eN l K=K l
 | [],K=>rfl
 | (n,o)::xs,K=>by unfold eN;rw [jp,pu,ko xs]
def apE (l:List Own):List (Nat × Own)→List Own
 | []=>l
 | (n,o)::T=>apE (setO l n o) T
theorem i8 : ∀ (T:List (Nat × Own)) (l:List Own),apE l T=apT l T
 | [],l=>rfl
 | (n,o)::T,l=>i8 T _
def qif (b:Bool) (A B:Prop):Prop:=(b=true→A)∧(b=false→B)
def jG {α:Type} (x:Option α) (K:α→Prop):Prop:=match x with|some a=>K a|none=>False
def kB {α:Type} (x:Option α) (K:α→Prop) (N:Prop):Prop:=match x with|some a=>K a|none=>N
def qE (x:AV) (A B:Prop):Prop:=match x with | .val (.bool b)=>qif b A B|_=>False
def qCall (P:Program) (f:FuncId) (args:List AV) (h:List Own) (K:AV→List Nat→List Nat→List Own→Prop):Prop :=
 ∃ rd T res,ACall P f args rd T res∧Fits h ⟨res,rd,T⟩∧K res (rd.map (·.1)) (T.map (·.1)) (apT h T)
def qOpen (P:Program) (o:Oper) (sl:List AV) (h:List Own) (K:AV→List Nat→List Nat→List Own→Prop):Prop:=qH P o sl h K
def qAW (P:Program) (B:Base) (c:Code) (Q:AExit→List AV→List Own→Prop) (sl:List AV) (h:List Own):Prop:=AW P B c (fun e st=>Q e st.sl st.h) ⟨sl,h⟩
def qConv (B:Base) (sl:List AV) (h:List Own) (sl' : List AV) (h' : List Own):Prop:=ConvS B ⟨sl,h⟩ ⟨sl', h'⟩
def evOp (P:Program) (o:Oper) (sl:List AV) (h:List Own) (K:AV→List Nat→List Nat→List Own→Prop):Prop :=
 kB (callOf sl o) (fun fa=>match fa with|(f,args)=>ch args fun args=>qCall P f args h K) (match o.op with
  | .pick c a b=>(match ae sl c with
    | .val (.bool g)=>qif g (frcW (ae sl a) fun av=>K av [] [] h) (frcW (ae sl b) fun av=>K av [] [] h)
    | _=>False)
  | _=>kB (aop P o sl h) (fun r=>frcW r.av fun av=>eN r.T fun T=>frcL (apE h T) fun h' => cg (r.rd.map (·.1)) fun rd=>cg (T.map (·.1)) fun wr=>K av rd wr h') (qOpen P o sl h K))
def mX (all:List Oper) (sl:List AV) (j:Nat) (want:Bool) (A B:Prop):Prop :=
 match (all[j]?).bind (·.dst) with
 | some d=>match sl.getD d (.val undef) with
   | .val (.bool g)=>(match want with|true=>qif g A B|false=>qif g B A)
   | .val (.tuple _)=>B
   | _=>False
 | none=>B
theorem ru {all:List Oper} {sl:List AV} {j:Nat} {want:Bool} {A B:Prop} {o:Oper} (ho:o.guard=some (j,want)) (H:mX all sl j want A B) : ∃ b,awanted all o sl=some b∧(b=true→A)∧(b=false→B):=by
 unfold mX at H
 unfold awanted
 rw [ho]
 simp only
 split at H
 ·rename_i d hd
  rw [hd]
  simp only
  split at H
  ·rename_i g hg
   rw [hg]
   refine ⟨g == want,rfl,?_⟩
   cases want with
   | true=>cases g<;>exact ⟨fun h=>(by first|exact H.1 rfl|cases h),fun h=>(by first|exact H.2 rfl|cases h)⟩
   | false=>cases g<;>exact ⟨fun h=>(by first|exact H.2 rfl|cases h),fun h=>(by first|exact H.1 rfl|cases h)⟩
  ·rename_i us hus
   rw [hus]
   exact ⟨false,rfl,(fun h=>by cases h),fun _=>H⟩
  ·exact H.elim
 ·rename_i hd
  rw [hd]
  exact ⟨false,rfl,(fun h=>by cases h),fun _=>H⟩
def de (P:Program) (all:List Oper) (K:List (List Nat × List Nat)→List AV→List Own→Prop):List Oper→List (List Nat × List Nat)→List AV→List Own→Prop
 | [],acc,sl,h=>K acc.reverse sl h
 | o::rest,acc,sl,h=>match o.guard with
   | none=>evOp P o sl h fun av rd wr h' => frcL (aput sl o.dst av) fun sl' => de P all K rest ((rd,wr)::acc) sl' h'
   | some (j,want)=>mX all sl j want (evOp P o sl h fun av rd wr h' => frcL (aput sl o.dst av) fun sl' => de P all K rest ((rd,wr)::acc) sl' h') (frcL (aput sl o.dst (.val undef)) fun sl' => de P all K rest (([],[])::acc) sl' h)
noncomputable def ev (P:Program) (B:Base) (c:Code):(AExit→List AV→List Own→Prop)→List AV→List Own→Prop :=
 Code.rec (motive:=fun _=>(AExit→List AV→List Own→Prop)→List AV→List Own→Prop)
  (fun Q sl h=>Q .normal sl h)
  (fun _ ops draw Q sl h=>de P ops.toList (fun ids sl h=>if draw=true then eV ops.toList ids=true∧Q .normal sl h else Q .normal sl h) ops.toList [] sl h)
  (fun a b ia ib Q sl h=>ia (fun e sl h=>match e with | .normal=>ib Q sl h|e=>Q e sl h) sl h)
  (fun c x y ix iy Q sl h=>qE (ae sl c) (ix Q sl h) (iy Q sl h))
  (fun id body ib Q sl h=>ib (fun e sl h=>match e with | .exit id' => if id' = id then Q .normal sl h else Q (.exit id') sl h|e=>Q e sl h) sl h)
  (fun body _ Q sl h=>qAW P B (.loop body) Q sl h)
  (fun _ _ _ _ _ _ _ _ _=>False)
  (fun id Q sl h=>Q (.exit id) sl h)
  (fun body _ Q sl h=>qAW P B (.scope body) Q sl h)
  (fun _ Q sl h=>Q .normal sl h)
  (fun l Q sl h=>Q (.goto l) sl h)
  (fun Q sl h=>Q .ret sl h)
  (fun _ _ _ _=>False) c
theorem wH (P:Program) (B:Base) (c x y Q sl h):ev P B (.cond c x y) Q sl h=qE (ae sl c) (ev P B x Q sl h) (ev P B y Q sl h):=rfl
theorem sL (P:Program) (B:Base) (id ops draw Q sl h):ev P B (.region id ops draw) Q sl h=de P ops.toList (fun ids sl h=>if draw=true then eV ops.toList ids=true∧Q .normal sl h else Q .normal sl h) ops.toList [] sl h:=rfl
def jz (P:Program) (B:Base) (rs:List ResultVar) (res:AV) (L1:List Own) (e:AExit) (sl:List AV) (h:List Own):Prop :=
 match e with
 | .normal=>jG (ares P rs sl h) fun av=>frcW av fun av=>qConv B [av] h [res] L1
 | .ret=>jG (ares P rs sl h) fun av=>frcW av fun av=>qConv B [av] h [res] L1
 | _=>False
theorem um {P:Program} {o:Oper} {sl:List AV} {h:List Own} {K:AV→List Nat→List Nat→List Own→Prop} (H:evOp P o sl h K):fv P o sl h K:=by
 rw [aoper_eq]
 simp only [hold_eq]
 unfold evOp at H
 cases hc:callOf sl o with
 | some fa =>
   rw [hc] at H
   simp only [kB,bH] at H
   exact H
 | none =>
   rw [hc] at H
   simp only [kB] at H
   split at H
   ·rename_i c x y ho
    split at H
    ·rename_i g hg
     have hr:aop P o sl h=some ⟨if g then ae sl x else ae sl y,[],[]⟩:=by
      unfold aop
      rw [ho]
      simp only [hg,apick,Option.map_some]
     rw [hr]
     simp only [dI] at H
     cases g with
     | true=>exact H.1 rfl
     | false=>exact H.2 rfl
    ·exact H.elim
   ·cases hr:aop P o sl h with
    | none=>rw [hr] at H;exact H
    | some r =>
      rw [hr] at H
      simp only [ca,iE,dI,ko,i8] at H
      exact H
theorem kN {P:Program} {o:Oper} {sl:List AV} {h:List Own} {K K' : AV→List Nat→List Nat→List Own→Prop} (H:fv P o sl h K) (hk : ∀ a b c d,K a b c d→K' a b c d):fv P o sl h K' := by
 rw [aoper_eq] at H ⊢
 simp only [hold_eq] at H ⊢
 cases hc:callOf sl o with
 | some fa =>
   rw [hc] at H
   obtain ⟨rd,T,res,h1,h2,h3⟩:=H
   exact ⟨rd,T,res,h1,h2,hk _ _ _ _ h3⟩
 | none =>
   rw [hc] at H
   cases hr:aop P o sl h with
   | none =>
     rw [hr] at H
     obtain ⟨rd,T,res,h1,h2,h3⟩:=H
     exact ⟨rd,T,res,h1,h2,hk _ _ _ _ h3⟩
   | some r=>rw [hr] at H;exact hk _ _ _ _ H
theorem dy {P:Program} {all:List Oper} {K:List (List Nat × List Nat)→List AV→List Own→Prop} : ∀ (rest:List Oper) (acc:List (List Nat × List Nat)) (sl:List AV) (h:List Own),de P all K rest acc sl h →
 bX P all (fun ids st=>K ids st.sl st.h) rest acc sl h
 | [],acc,sl,h,H=>H
 | o::rest,acc,sl,h,H=>by
   rw [awpOps_cons]
   simp only [hold_eq]
   have one:(evOp P o sl h fun av rd wr h' => frcL (aput sl o.dst av) fun sl' => de P all K rest ((rd,wr)::acc) sl' h')→fv P o sl h fun av rd wr h' => bX P all (fun ids st=>K ids st.sl st.h) rest ((rd,wr)::acc) (aput sl o.dst av) h' := fun H1 =>
    kN (um H1) fun av rd wr h' H2=>dy rest _ _ _ (by rw [ca] at H2;exact H2)
   unfold de at H
   split at H
   ·rename_i hg
    have hw:awanted all o sl=some true:=by unfold awanted;rw [hg]
    rw [hw,onSome_some,aif_true]
    exact one H
   ·rename_i j want hg
    obtain ⟨b,hw,h1,h2⟩:=ru hg H
    rw [hw,onSome_some]
    exact ⟨fun hb=>one (h1 hb),fun hb=>dy rest _ _ _ (by have:=h2 hb;rw [ca] at this;exact this)⟩
theorem j4 {P:Program} {B:Base} : ∀ (c:Code) {Q Q' : AExit→ASt→Prop} {sl:List AV} {h:List Own}, awp P B c Q sl h→(∀ e st,Q e st→Q' e st)→awp P B c Q' sl h:=by
 have ops : ∀ (all:List Oper) {K K' : List (List Nat × List Nat)→ASt→Prop} (rest:List Oper) (acc:List (List Nat × List Nat)) (sl:List AV) (h:List Own),bX P all K rest acc sl h→(∀ ids st,K ids st→K' ids st)→bX P all K' rest acc sl h:=by
  intro all K K' rest
  induction rest with
  | nil=>intro acc sl h H hk;exact hk _ _ H
  | cons o rest ih =>
    intro acc sl h H hk
    rw [awpOps_cons] at H ⊢
    simp only [hold_eq] at H ⊢
    cases hw:awanted all o sl with
    | none=>rw [hw] at H;exact H.elim
    | some b =>
      rw [hw] at H
      exact ⟨fun hb=>kN (H.1 hb) fun av rd wr h' H2=>ih _ _ _ H2 hk,fun hb=>ih _ _ _ (H.2 hb) hk⟩
 intro c
 induction c with
 | skip=>intro Q Q' sl h H hq;exact hq _ _ H
 | label l=>intro Q Q' sl h H hq;exact hq _ _ H
 | exit id=>intro Q Q' sl h H hq;exact hq _ _ H
 | goto l=>intro Q Q' sl h H hq;exact hq _ _ H
 | ret=>intro Q Q' sl h H hq;exact hq _ _ H
 | loop body ih=>intro Q Q' sl h H hq;exact AW.mono H hq
 | scope body ih=>intro Q Q' sl h H hq;exact AW.mono H hq
 | rangeFunc f ps as body ih1 ih2=>intro Q Q' sl h H hq;exact H.elim
 | refuse why=>intro Q Q' sl h H hq;exact H.elim
 | block id body ih =>
   intro Q Q' sl h H hq
   refine ih H fun e st He=>?_
   cases e with
   | exit id' =>
     rw [aBlock_exit] at He ⊢
     split
     ·rename_i hi;rw [if_pos hi] at He;exact hq _ _ He
     ·rename_i hi;rw [if_neg hi] at He;exact hq _ _ He
   | normal=>exact hq _ _ He
   | goto l=>exact hq _ _ He
   | ret=>exact hq _ _ He
 | cond c x y ihx ihy =>
   intro Q Q' sl h H hq
   unfold awp at H ⊢
   rw [hold_eq] at H ⊢
   unfold fo at H ⊢
   split at H
   ·exact ⟨fun hb=>ihx (H.1 hb) hq,fun hb=>ihy (H.2 hb) hq⟩
   ·exact H.elim
 | seq x y ihx ihy =>
   intro Q Q' sl h H hq
   refine ihx H fun e st He=>?_
   cases e with
   | normal=>exact ihy He hq
   | exit id' => exact hq _ _ He
   | goto l=>exact hq _ _ He
   | ret=>exact hq _ _ He
 | region id o draw =>
   intro Q Q' sl h H hq
   unfold awp at H ⊢
   exact ops _ _ _ _ _ H fun ids st h=>⟨h.1,hq _ _ h.2⟩
theorem dh {P:Program} {B:Base} : ∀ (c:Code) (Q:AExit→List AV→List Own→Prop) (sl:List AV) (h:List Own),ev P B c Q sl h→awp P B c (fun e st=>Q e st.sl st.h) sl h:=by
 intro c
 induction c with
 | skip=>intro Q sl h H;exact H
 | label l=>intro Q sl h H;exact H
 | exit id=>intro Q sl h H;exact H
 | goto l=>intro Q sl h H;exact H
 | ret=>intro Q sl h H;exact H
 | loop body ih=>intro Q sl h H;exact H
 | scope body ih=>intro Q sl h H;exact H
 | rangeFunc f ps as body ih1 ih2=>intro Q sl h H;exact H.elim
 | refuse why=>intro Q sl h H;exact H.elim
 | block id body ih =>
   intro Q sl h H
   show awp P B body _ sl h
   refine j4 body (ih _ _ _ H) fun e st He=>?_
   cases e with
   | exit id' => exact He
   | normal=>exact He
   | goto l=>exact He
   | ret=>exact He
 | cond c x y ihx ihy =>
   intro Q sl h H
   rw [wH] at H
   unfold awp
   rw [hold_eq]
   unfold qE at H
   unfold fo
   split at H
   ·rename_i b hb
    rw [hb]
    exact ⟨fun hb=>ihx _ _ _ (H.1 hb),fun hb=>ihy _ _ _ (H.2 hb)⟩
   ·exact H.elim
 | seq x y ihx ihy =>
   intro Q sl h H
   show awp P B x _ sl h
   refine j4 x (ihx _ _ _ H) fun e st He=>?_
   cases e with
   | normal=>exact ihy _ _ _ He
   | exit id' => exact He
   | goto l=>exact He
   | ret=>exact He
 | region id ops draw =>
   intro Q sl h H
   rw [sL] at H
   unfold awp
   have:=dy _ _ _ _ H
   cases draw with
   | true=>simpa using this
   | false=>simpa using this
theorem ACallL.of_ev {P:Program} (hm:P.follows .mixedOrders=true) {f:FuncId} {fn:Func} {c:Code} {args:List AV} {L0:List Own} {res:AV} {L1:List Own} {rs:List ResultVar} {n:Nat} (hf:P.funcs[f]?=some fn) (hb:fn.body=some c) (hc:cn P f)
 (hrs:fn.results.toList=rs) (hn:fn.ntmps=n) (h : ∀ B:Base,B.h=ofL L0→ev P B c (jz P B rs res L1) (args ++ List.replicate (n - args.length) (.val undef)) L0):ACallL P f args L0 res L1:=by
 refine ACallL.of_awp hm hf hb hc hrs hn fun B hB=>j4 _ (dh _ _ _ _ (h B hB)) fun e st He=>?_
 have fin:(jG (ares P rs st.sl st.h) fun av=>frcW av fun av=>qConv B [av] st.h [res] L1) → ∃ av,ares P rs st.sl st.h=some av∧ConvS B ⟨[av],st.h⟩ ⟨[res],L1⟩:=by
  intro H
  cases hr:ares P rs st.sl st.h with
  | none=>rw [hr] at H;exact H.elim
  | some av =>
    rw [hr] at H
    simp only [jG,dI] at H
    exact ⟨av,rfl,H⟩
 cases e with
 | normal=>exact fin He
 | ret=>exact fin He
 | exit id=>exact He.elim
 | goto l=>exact He.elim
theorem ai {b:Bool} {A B:Prop} (hb:b=true) (h:A):qif b A B:=by
 subst hb;exact ⟨fun _=>h,(fun e=>by cases e)⟩
theorem aj {b:Bool} {A B:Prop} (hb:b=false) (h:B):qif b A B:=by
 subst hb;exact ⟨(fun e=>by cases e),fun _=>h⟩
theorem pe {l:List AV} {K:List AV→Prop} (h:K l):ga l K:=by rw [ik];exact h
theorem lT {l:List (List AV)} {K:List (List AV)→Prop} (h:K l):kZ l K:=by rw [jX];exact h
theorem ak {α:Type} {x:Option α} {a:α} {K:α→Prop} {N:Prop} (hx:x=some a) (h:K a):kB x K N:=by rw [hx];exact h
theorem va {b:Bool} {A B:Prop} (h:qif b B A):qif (!b) A B:=by
 cases b
 ·exact ⟨fun _=>h.2 rfl,(fun e=>by cases e)⟩
 ·exact ⟨(fun e=>by cases e),fun _=>h.1 rfl⟩
theorem ab {b:Bool} {A B:Prop} (h1:b=true→A) (h2:b=false→B):qif b A B:=⟨h1,h2⟩
attribute [irreducible] qif qCall qOpen qAW qConv
abbrev Prs:=List (Nat × Nat)
def Prs.has:Prs→Nat→Nat→Bool
 | [],_,_=>false
 | (a,b)::l,x,y=>(Nat.beq a x && Nat.beq b y) || Prs.has l x y
theorem Prs.has_iff : ∀ (l:Prs) (x y:Nat),l.has x y=true ↔ (x,y)∈l
 | [],x,y=>by simp [Prs.has]
 | (a,b)::l,x,y=>by
   simp only [Prs.has,Bool.or_eq_true,Bool.and_eq_true,Nat.beq_eq,Prs.has_iff l,List.mem_cons,Prod.mk.injEq]
   constructor
   ·rintro (⟨rfl,rfl⟩|h)
    ·exact .inl ⟨rfl,rfl⟩
    ·exact .inr h
   ·rintro (⟨rfl,rfl⟩|h)
    ·exact .inl ⟨rfl,rfl⟩
    ·exact .inr h
def qOf (L I F:Prs):Rn:=⟨fun x y=>(x,y)∈L,fun x y=>(x,y)∈I,fun x y=>(x,y)∈F⟩
inductive Pl:AV→Prop
 | any:Pl .any
 | val (v:Value):Pl (.val v)
 | agg (cs:List AV) (h : ∀ c∈cs,Pl c):Pl (.agg cs)
 | tup (cs:List AV) (h : ∀ c∈cs,Pl c):Pl (.tup cs)
 | list (sz:Nat) (rows:List (List AV)) (h : ∀ row∈rows, ∀ c∈row,Pl c):Pl (.list 0 sz rows)
 | lptr (row:List AV) (j:Nat) (h : ∀ c∈row,Pl c):Pl (.lptr 0 row j)
theorem Pl.ren {q:Rn} {h:Hp} (h0:q.I 0 0) {c:AV} (hp:Pl c):Ren q h c c:=by
 induction hp with
 | any=>exact .any _
 | val v=>exact .val v
 | agg cs hc ih=>exact .agg _ _ rfl fun i c c' a b=>by rw [a] at b;cases b;exact ih c (List.mem_of_getElem? a)
 | tup cs hc ih=>exact .tup _ _ rfl fun i c c' a b=>by rw [a] at b;cases b;exact ih c (List.mem_of_getElem? a)
 | list sz rows hc ih =>
   refine .list 0 0 sz _ _ h0 rfl (fun i row row' a b=>by rw [a] at b;cases b;rfl) fun i j row row' c c' a b d e=>?_
   rw [a] at b;cases b
   rw [d] at e;cases e
   exact ih row (List.mem_of_getElem? a) c (List.mem_of_getElem? d)
 | lptr row j hc ih=>exact .lptr 0 0 j _ _ h0 rfl fun i c c' a b=>by rw [a] at b;cases b;exact ih c (List.mem_of_getElem? a)
def PlRows (rows:List (List AV)):Prop := ∀ row∈rows, ∀ c∈row,Pl c
theorem PlRows.nil:PlRows []:=by simp [PlRows]
theorem PlRows.map {α:Type} (l:List α) (f:α→Value):PlRows (l.map fun x=>[.val (f x)]):=by
 intro row hr c hc
 simp only [List.mem_map] at hr
 obtain ⟨x,_,rfl⟩:=hr
 simp only [List.mem_singleton] at hc
 subst hc
 exact .val _
theorem RowsRen.same {q:Rn} {h:Hp} (h0:q.I 0 0) {rows rows' : List (List AV)} (e:rows=rows') (hp:PlRows rows):RowsRen q h rows rows' := by
 subst e
 refine ⟨rfl,fun i row row' a b=>by rw [a] at b;cases b;rfl,fun i j row row' c c' a b d e=>?_⟩
 rw [a] at b;cases b
 rw [d] at e;cases e
 exact (hp row (List.mem_of_getElem? a) c (List.mem_of_getElem? d)).ren h0
theorem RowsRen.pl {L I F:Prs} {h:Hp} {rows rows' : List (List AV)} (h0:I.has 0 0=true) (e:rows=rows') (hp:PlRows rows):RowsRen (qOf L I F) h rows rows' := RowsRen.same ((Prs.has_iff I 0 0).1 h0) e hp
theorem PlRows.mapF {α:Type} (l:List α) (f:α→List AV) (H : ∀ x∈l, ∀ c∈f x,Pl c):PlRows (l.map f):=by
 intro row hr c hc
 simp only [List.mem_map] at hr
 obtain ⟨x,hx,rfl⟩:=hr
 exact H x hx c hc
theorem RowsRen.nil {q:Rn} {h:Hp} : RowsRen q h [] []:=⟨rfl,by simp,by simp⟩
def eM (b:Bool) (K:Prop):Prop:=match b with|true=>K|false=>False
theorem ei {b:Bool} {K:Prop} (h:eM b K):b=true∧K:=by cases b;exact h.elim;exact ⟨rfl,h⟩
def mN (L I F:Prs) (h:List Own):AV→AV→Prop→Prop
 | _,.any,K=>K
 | .val v,.val v', K=>v=v' ∧ K
 | .ptr b i j,.ptr b' i' j', K=>eM (L.has b b') (i=i' ∧ j=j' ∧ K)
 | .sl b i n,.sl b' i' n', K=>eM (L.has b b') (i=i' ∧ n=n' ∧ K)
 | .val (.slice none 0 0),.list _ _ rows', K=>rows' = []∧K
 | .val (.slice none 0 0),.glist _ _ rows', K=>rows' = []∧K
 | .glist r sz rows,.glist r' sz' rows', K=>eM (I.has r r') (sz=sz' ∧ RowsRen (qOf L I F) (ofL h) rows rows' ∧ K)
 | .glist r sz rows,.list r' sz' rows', K=>eM (I.has r r') (sz=sz' ∧ RowsRen (qOf L I F) (ofL h) rows rows' ∧ K)
 | .sl b i n,.glist r' sz' rows', K=>eM (F.has b r') (match ofL h b with | .live k=>sz' = k.sz∧RowsRen (qOf L I F) (ofL h) ((k.rows.drop i).take n) rows' ∧ K|_=>False)
 | .list r sz rows,.list r' sz' rows', K=>eM (I.has r r') (sz=sz' ∧ RowsRen (qOf L I F) (ofL h) rows rows' ∧ K)
 | .sl b i n,.list r' sz' rows', K=>eM (F.has b r') (match ofL h b with | .live k=>sz' = k.sz∧RowsRen (qOf L I F) (ofL h) ((k.rows.drop i).take n) rows' ∧ K|_=>False)
 | .lptr r row j,.lptr r' row' j', K=>eM (I.has r r') (j=j' ∧ RowsRen (qOf L I F) (ofL h) [row] [row']∧K)
 | _,_,_=>False
def kK (L I F:Prs) (h:List Own):List AV→List AV→Prop→Prop
 | [],[],K=>K
 | x::xs,y::ys,K=>mN L I F h x y (kK L I F h xs ys K)
 | _,_,_=>False
def avE (L I F:Prs) (h:List Own):AV→AV→Prop→Prop
 | .agg cs,.agg cs', K=>kK L I F h cs cs' K
 | .clo f cs,.clo f' cs', K=>f=f' ∧ kK L I F h cs cs' K
 | x,y,K=>mN L I F h x y K
def avsE (L I F:Prs) (h:List Own):List AV→List AV→Prop→Prop
 | [],[],K=>K
 | x::xs,y::ys,K=>avE L I F h x y (avsE L I F h xs ys K)
 | _,_,_=>False
def av2E (L I F:Prs) (h:List Own):AV→AV→Prop→Prop
 | .tup cs,.tup cs', K=>avsE L I F h cs cs' K
 | x,y,K=>avE L I F h x y K
def kJ (L I F:Prs) (h:List Own):List AV→List AV→Prop→Prop
 | [],[],K=>K
 | x::xs,y::ys,K=>av2E L I F h x y (kJ L I F h xs ys K)
 | _,_,_=>False
section
variable {L I F:Prs} {h:List Own}
theorem ot {x y:AV} {K:Prop} (H:mN L I F h x y K):Ren (qOf L I F) (ofL h) x y∧K:=by
 unfold mN at H
 split at H
 ·exact ⟨.any _,H⟩
 ·obtain ⟨rfl,H⟩:=H;exact ⟨.val _,H⟩
 ·obtain ⟨h1,rfl,rfl,H'⟩:=ei H;exact ⟨.ptr _ _ _ _ ((L.has_iff _ _).1 h1),H'⟩
 ·obtain ⟨h1,rfl,rfl,H'⟩:=ei H;exact ⟨.sl _ _ _ _ ((L.has_iff _ _).1 h1),H'⟩
 ·obtain ⟨rfl,H⟩:=H;exact ⟨.vnil _ _,H⟩
 ·obtain ⟨rfl,H⟩:=H;exact ⟨.vgnil _ _,H⟩
 ·obtain ⟨h1,rfl,h2,H⟩:=ei H;exact ⟨.glist _ _ _ _ _ ((I.has_iff _ _).1 h1) h2.1 h2.2.1 h2.2.2,H⟩
 ·obtain ⟨h1,rfl,h2,H⟩:=ei H;exact ⟨.gl _ _ _ _ (.list _ _ _ _ _ ((I.has_iff _ _).1 h1) h2.1 h2.2.1 h2.2.2),H⟩
 ·obtain ⟨h1,H⟩:=ei H
  split at H
  ·rename_i k hk
   obtain ⟨rfl,h2,H⟩:=H
   exact ⟨.frzg _ _ _ _ k _ ((F.has_iff _ _).1 h1) hk h2.1 h2.2.1 h2.2.2,H⟩
  ·exact H.elim
 ·obtain ⟨h1,rfl,h2,H⟩:=ei H;exact ⟨.list _ _ _ _ _ ((I.has_iff _ _).1 h1) h2.1 h2.2.1 h2.2.2,H⟩
 ·obtain ⟨h1,H⟩:=ei H
  split at H
  ·rename_i k hk
   obtain ⟨rfl,h2,H⟩:=H
   exact ⟨.frz _ _ _ _ k _ ((F.has_iff _ _).1 h1) hk h2.1 h2.2.1 h2.2.2,H⟩
  ·exact H.elim
 ·obtain ⟨h1,rfl,h2,H⟩:=ei H
  exact ⟨.lptr _ _ _ _ _ ((I.has_iff _ _).1 h1) (h2.2.1 0 _ _ rfl rfl) (fun i c c' a b=>h2.2.2 0 i _ _ c c' rfl rfl a b),H⟩
 ·exact H.elim
theorem ji : ∀ {xs ys:List AV} {K:Prop}, kK L I F h xs ys K→(xs.length=ys.length ∧ ∀ (i:Nat) (c c' : AV),xs[i]?=some c→ys[i]?=some c' → Ren (qOf L I F) (ofL h) c c')∧K
 | [],[],K,H=>⟨⟨rfl,by simp⟩,H⟩
 | [],y::ys,K,H=>H.elim
 | x::xs,[],K,H=>H.elim
 | x::xs,y::ys,K,H=>by
   obtain ⟨h1,h2⟩:=ot H
   obtain ⟨⟨h3,h4⟩,h5⟩:=ji h2
   refine ⟨⟨by simp [h3],fun i c c' a b=>?_⟩,h5⟩
   cases i with
   | zero=>simp at a b;subst a b;exact h1
   | succ i=>exact h4 i c c' (by simpa using a) (by simpa using b)
theorem sC {x y:AV} {K:Prop} (H:avE L I F h x y K):Ren (qOf L I F) (ofL h) x y∧K:=by
 unfold avE at H
 split at H
 ·obtain ⟨⟨h1,h2⟩,h3⟩:=ji H;exact ⟨.agg _ _ h1 h2,h3⟩
 ·obtain ⟨rfl,H⟩:=H
  obtain ⟨⟨h1,h2⟩,h3⟩:=ji H;exact ⟨.clo _ _ _ h1 h2,h3⟩
 ·exact ot H
theorem lO : ∀ {xs ys:List AV} {K:Prop}, avsE L I F h xs ys K→(xs.length=ys.length ∧ ∀ (i:Nat) (c c' : AV),xs[i]?=some c→ys[i]?=some c' → Ren (qOf L I F) (ofL h) c c')∧K
 | [],[],K,H=>⟨⟨rfl,by simp⟩,H⟩
 | [],y::ys,K,H=>H.elim
 | x::xs,[],K,H=>H.elim
 | x::xs,y::ys,K,H=>by
   obtain ⟨h1,h2⟩:=sC H
   obtain ⟨⟨h3,h4⟩,h5⟩:=lO h2
   refine ⟨⟨by simp [h3],fun i c c' a b=>?_⟩,h5⟩
   cases i with
   | zero=>simp at a b;subst a b;exact h1
   | succ i=>exact h4 i c c' (by simpa using a) (by simpa using b)
theorem pH {x y:AV} {K:Prop} (H:av2E L I F h x y K):Ren (qOf L I F) (ofL h) x y∧K:=by
 unfold av2E at H
 split at H
 ·obtain ⟨⟨h1,h2⟩,h3⟩:=lO H;exact ⟨.tup _ _ h1 h2,h3⟩
 ·exact sC H
theorem l9 : ∀ {xs ys:List AV} {K:Prop}, kJ L I F h xs ys K→ke (qOf L I F) (ofL h) xs ys∧K
 | [],[],K,H=>⟨⟨rfl,by simp⟩,H⟩
 | [],y::ys,K,H=>H.elim
 | x::xs,[],K,H=>H.elim
 | x::xs,y::ys,K,H=>by
   obtain ⟨h1,h2⟩:=pH H
   obtain ⟨⟨h3,h4⟩,h5⟩:=l9 h2
   refine ⟨⟨by simp [h3],fun i c c' a b=>?_⟩,h5⟩
   cases i with
   | zero=>simp at a b;subst a b;exact h1
   | succ i=>exact h4 i c c' (by simpa using a) (by simpa using b)
end
def Own.isLive:Own→Bool | .live _=>true|_=>false
def Own.isImm:Own→Bool | .perm=>true | .uniq=>true|_=>false
def Own.isUniq:Own→Bool | .uniq=>true|_=>false
def Own.isUsed:Own→Bool | .unused=>false|_=>true
def Own.isDead:Own→Bool | .dead=>true|_=>false
def Own.goesB:Own→Own→Bool
 | .unused,_=>true
 | _,.dead=>true
 | .perm,.perm=>true
 | .uniq,.uniq=>true
 | .live k,.live k' => Nat.beq k'.sz k.sz
 | _,_=>false
def imp (a b:Bool):Bool := !a || b
theorem bv {a b:Bool} (h:imp a b=true) (ha:a=true):b=true:=by subst ha;simpa [imp] using h
def allN:Nat→(Nat→Bool)→Bool
 | 0,_=>true
 | n + 1,f=>f n && allN n f
theorem jk {f:Nat→Bool} : ∀ {n:Nat}, allN n f=true → ∀ y,y < n→f y=true
 | 0,_,y,hy=>by omega
 | n + 1,h,y,hy=>by
   simp only [allN,Bool.and_eq_true] at h
   by_cases e:y=n
   ·subst e;exact h.1
   ·exact jk h.2 y (by omega)
def gM (b h h' : List Own) (L I F:Prs):Bool :=
 allN h'.length (fun y=>imp (ofL h' y).isLive (L.any fun p=>Nat.beq p.2 y)) &&
 L.all (fun p=>(match ofL h p.1,ofL h' p.2 with | .live k,.live k' => Nat.beq k'.sz k.sz && Nat.beq k'.elem k.elem|_,_=>false) && imp (ofL b p.2).isUsed (Nat.beq p.1 p.2) &&
  L.all (fun q=>(imp (Nat.beq p.2 q.2) (Nat.beq p.1 q.1)) && imp (Nat.beq p.1 q.1) (Nat.beq p.2 q.2)) && F.all fun q => !Nat.beq q.1 p.1) &&
 I.all (fun p=>(ofL h p.1).isImm && (ofL h' p.2).isImm && imp (ofL h' p.2).isUniq (ofL h p.1).isUniq && imp (ofL b p.2).isUsed (Nat.beq p.1 p.2) &&
  imp (!(ofL b p.2).isUsed && (ofL h' p.2).isUniq && (ofL b p.1).isUsed) (ofL h' p.1).isDead &&
  imp (ofL h' p.2).isUniq (I.all fun q=>imp (Nat.beq p.1 q.1) (Nat.beq p.2 q.2))) &&
 F.all (fun p=>(ofL h p.1).isLive && (ofL h' p.2).isImm && !(ofL b p.2).isUsed && imp (ofL h' p.2).isUniq (F.all fun q=>imp (Nat.beq p.1 q.1) (Nat.beq p.2 q.2))) &&
 allN b.length (fun y=>imp (ofL b y).isUsed ((ofL h y).goesB (ofL h' y) && imp (ofL h' y).isImm (I.has y y)))
def fz (q:Rn) (h h' : List Own):Prs→Prop→Prop
 | [],K=>K
 | (x,y)::L,K=>match ofL h x,ofL h' y with
   | .live k,.live k' => RowsRen q (ofL h) k.rows k'.rows∧fz q h h' L K
   | _,_=>False
theorem kt {q:Rn} {h h' : List Own} : ∀ {L:Prs} {K:Prop}, fz q h h' L K→(∀ p∈L, ∀ k k', ofL h p.1 = .live k→ofL h' p.2 = .live k' → RowsRen q (ofL h) k.rows k'.rows)∧K
 | [],K,H=>⟨by simp,H⟩
 | (x,y)::L,K,H=>by
   unfold fz at H
   split at H
   ·rename_i k k' h1 h2
    obtain ⟨H1,H2⟩:=H
    obtain ⟨h3,h4⟩:=kt H2
    refine ⟨fun p hp a b e1 e2=>?_,h4⟩
    rcases List.mem_cons.1 hp with rfl|hp
    ·simp only at e1 e2
     rw [h1] at e1;rw [h2] at e2;cases e1;cases e2;exact H1
    ·exact h3 p hp a b e1 e2
   ·exact H.elim
theorem iH {b:List Own} {y:Nat} (h:(ofL b y).isUsed=true):y < b.length:=by
 rcases Nat.lt_or_ge y b.length with h' | h'
 ·exact h'
 ·simp [ofL,List.getD,List.getElem?_eq_none h', Own.isUsed] at h
theorem d6 {o:Own} : o.isUsed=true ↔ o ≠ .unused:=by cases o<;>simp [Own.isUsed]
theorem fR {o:Own} : o.isUsed=false ↔ o = .unused:=by cases o<;>simp [Own.isUsed]
theorem cy {o:Own} : o.isImm=true ↔ o.imm:=by cases o<;>simp [Own.isImm,Own.imm]
theorem bP {o:Own} : o.isUniq=true ↔ o = .uniq:=by cases o<;>simp [Own.isUniq]
theorem fy {o:Own} : o.isDead=true ↔ o = .dead:=by cases o<;>simp [Own.isDead]
theorem j5 {o:Own} (h:o.isLive=true) : ∃ k,o = .live k:=by cases o<;>simp [Own.isLive] at h;exact ⟨_,rfl⟩
theorem qConv.of {B:Base} {b:List Own} (hB:B.h=ofL b) (L I F:Prs) {sl sl' : List AV} {h h' : List Own} (hk:gM b h h' L I F=true)
 (H:fz (qOf L I F) h h' L (kJ L I F h sl sl' True)):qConv B sl h sl' h' := by
 obtain ⟨hrows,H⟩:=kt H
 obtain ⟨hsl,_⟩:=l9 H
 simp only [gM,Bool.and_eq_true] at hk
 obtain ⟨⟨⟨⟨k1,k2⟩,k3⟩,k4⟩,k5⟩:=hk
 have k1:=jk k1
 have k5:=jk k5
 rw [List.all_eq_true] at k2 k3 k4
 have hL : ∀ p∈L, ∃ k k', ofL h p.1 = .live k∧ofL h' p.2 = .live k' ∧ k'.sz=k.sz∧k'.elem=k.elem:=fun p hp=>by
  have:=k2 p hp
  simp only [Bool.and_eq_true] at this
  have:=this.1.1.1
  split at this
  ·rename_i k k' e1 e2
   simp only [Bool.and_eq_true,Nat.beq_eq] at this
   exact ⟨k,k', e1,e2,this.1,this.2⟩
  ·cases this
 have hL2 : ∀ p∈L,(imp (ofL b p.2).isUsed (Nat.beq p.1 p.2))=true∧(∀ q∈L,imp (Nat.beq p.2 q.2) (Nat.beq p.1 q.1)=true∧imp (Nat.beq p.1 q.1) (Nat.beq p.2 q.2)=true) ∧ ∀ q∈F,q.1≠p.1:=fun p hp=>by
  have:=k2 p hp
  simp only [Bool.and_eq_true,List.all_eq_true] at this
  refine ⟨this.1.1.2,fun q hq=>this.1.2 q hq,fun q hq e=>?_⟩
  have:=this.2 q hq
  rw [e] at this
  simp at this
 have hI:=fun p hp=>by
  have:=k3 p hp
  simp only [Bool.and_eq_true] at this
  exact this
 have hF:=fun p hp=>by
  have:=k4 p hp
  simp only [Bool.and_eq_true] at this
  exact this
 have beq : ∀ {x y:Nat}, x=y→Nat.beq x y=true:=fun e=>by subst e;simp
 unfold qConv
 refine ConvS.turn (qOf L I F) ⟨⟨?_,?_,?_,?_,?_,?_,?_,?_,?_⟩,?_,?_,?_,?_,?_,?_⟩ hsl
 ·intro y k' hy
  have:=bv (k1 y (fM hy)) (by rw [hy];rfl)
  rw [List.any_eq_true] at this
  obtain ⟨p,hp,e⟩:=this
  have e:p.2=y:=by simpa using e
  subst e
  obtain ⟨k,k2', e1,e2,e3,e4⟩:=hL p hp
  rw [hy] at e2;cases e2
  exact ⟨p.1,k,hp,e1,e3,e4,hrows p hp k k' e1 hy⟩
 ·intro x y hxy
  obtain ⟨k,k', e1,e2,_⟩:=hL _ hxy
  exact ⟨k,k', e1,e2⟩
 ·intro x x' y h1 h2
  have:=bv ((hL2 _ h1).2.1 _ h2).1 (beq rfl)
  simpa using this
 ·intro x y y' h1 h2
  have:=bv ((hL2 _ h1).2.1 _ h2).2 (beq rfl)
  simpa using this
 ·intro x y hxy
  obtain ⟨⟨⟨⟨⟨a1,a2⟩,a3⟩,_⟩,_⟩,_⟩:=hI _ hxy
  exact ⟨cy.1 a1,cy.1 a2,fun hu=>bP.1 (bv a3 (bP.2 hu))⟩
 ·intro x y y' h1 h2 hu
  obtain ⟨_,a6⟩:=hI _ h1
  have:=bv a6 (bP.2 hu)
  rw [List.all_eq_true] at this
  simpa using bv (this _ h2) (beq rfl)
 ·intro x y hxy
  obtain ⟨⟨⟨a1,a2⟩,a3⟩,a4⟩:=hF _ hxy
  exact ⟨j5 a1,cy.1 a2⟩
 ·intro x y y' h1 h2 hu
  obtain ⟨⟨⟨a1,a2⟩,a3⟩,a4⟩:=hF _ h1
  have:=bv a4 (bP.2 hu)
  rw [List.all_eq_true] at this
  simpa using bv (this _ h2) (beq rfl)
 ·intro x y y' h1 h2
  exact (hL2 _ h2).2.2 _ h1 rfl
 ·intro x y hxy hb
  rw [hB] at hb
  simpa using bv (hL2 _ hxy).1 (d6.2 hb)
 ·intro x y hxy hb
  rw [hB] at hb
  obtain ⟨⟨⟨⟨⟨a1,a2⟩,a3⟩,a4⟩,_⟩,_⟩:=hI _ hxy
  simpa using bv a4 (d6.2 hb)
 ·intro y hb hi
  rw [hB] at hb
  have hu:=d6.2 hb
  have:=bv (k5 y (iH hu)) hu
  simp only [Bool.and_eq_true] at this
  exact (I.has_iff _ _).1 (bv this.2 (cy.2 hi))
 ·intro x y hxy
  obtain ⟨⟨⟨a1,a2⟩,a3⟩,a4⟩:=hF _ hxy
  rw [hB]
  exact fR.1 (by simpa using a3)
 ·intro y hb
  rw [hB] at hb
  have hu:=d6.2 hb
  have:=bv (k5 y (iH hu)) hu
  simp only [Bool.and_eq_true] at this
  have h1:=this.1
  cases e1:ofL h y<;>cases e2:ofL h' y<;>rw [e1,e2] at h1<;>first|trivial|(simp [Own.goesB] at h1;done)|skip
  rename_i k k'
  have:=bv (k1 y (fM e2)) (by rw [e2];rfl)
  rw [List.any_eq_true] at this
  obtain ⟨p,hp,e⟩:=this
  have e:p.2=y:=by simpa using e
  have e' : p.1=p.2:=by simpa using bv (hL2 _ hp).1 (by rw [e];exact hu)
  have hr:=hrows p hp k k' (by rw [e', e];exact e1) (by rw [e];exact e2)
  refine ⟨by simpa [Own.goesB] using h1,Nat.le_of_eq hr.1⟩
 ·intro x y hxy hb hu hbx
  rw [hB] at hb hbx
  obtain ⟨⟨_,a5⟩,_⟩:=hI _ hxy
  refine fy.1 (bv a5 ?_)
  simp only [fR.2 hb,bP.2 hu,d6.2 hbx,Bool.not_false,Bool.and_self]
def Prs.swap (l:Prs):Prs:=l.map fun p=>(p.2,p.1)
theorem Prs.mem_swap {l:Prs} {x y:Nat} : (x,y)∈l.swap ↔ (y,x)∈l:=by
 simp only [Prs.swap,List.mem_map,Prod.mk.injEq,Prod.exists]
 constructor
 ·rintro ⟨a,b,h,rfl,rfl⟩;exact h
 ·intro h;exact ⟨y,x,h,rfl,rfl⟩
theorem ux (own imm bor:Prs):qOf own.swap imm.swap bor.swap=qIn own imm bor:=by
 simp only [qOf,qIn,Prs.mem_swap,List.not_mem_nil]
theorem vG {h h' : List Own} {L I F:Prs} (hk:gM [] h h' L I F=true) (hrows : ∀ p∈L, ∀ k k', ofL h p.1 = .live k→ofL h' p.2 = .live k' → RowsRen (qOf L I F) (ofL h) k.rows k'.rows):RnOk (ofL h) (ofL h') (qOf L I F):=by
 simp only [gM,Bool.and_eq_true] at hk
 obtain ⟨⟨⟨⟨k1,k2⟩,k3⟩,k4⟩,k5⟩:=hk
 have k1:=jk k1
 rw [List.all_eq_true] at k2 k3 k4
 have hL : ∀ p∈L, ∃ k k', ofL h p.1 = .live k∧ofL h' p.2 = .live k' ∧ k'.sz=k.sz∧k'.elem=k.elem:=fun p hp=>by
  have:=k2 p hp
  simp only [Bool.and_eq_true] at this
  have:=this.1.1.1
  split at this
  ·rename_i k k' e1 e2
   simp only [Bool.and_eq_true,Nat.beq_eq] at this
   exact ⟨k,k', e1,e2,this.1,this.2⟩
  ·cases this
 have hL2 : ∀ p∈L,(∀ q∈L,imp (Nat.beq p.2 q.2) (Nat.beq p.1 q.1)=true∧imp (Nat.beq p.1 q.1) (Nat.beq p.2 q.2)=true) ∧ ∀ q∈F,q.1≠p.1:=fun p hp=>by
  have:=k2 p hp
  simp only [Bool.and_eq_true,List.all_eq_true] at this
  refine ⟨fun q hq=>this.1.2 q hq,fun q hq e=>?_⟩
  have:=this.2 q hq
  rw [e] at this
  simp at this
 have hI:=fun p hp=>by
  have:=k3 p hp
  simp only [Bool.and_eq_true] at this
  exact this
 have hF:=fun p hp=>by
  have:=k4 p hp
  simp only [Bool.and_eq_true] at this
  exact this
 have beq : ∀ {x y:Nat}, x=y→Nat.beq x y=true:=fun e=>by subst e;simp
 refine ⟨?_,?_,?_,?_,?_,?_,?_,?_,?_⟩
 ·intro y k' hy
  have:=bv (k1 y (fM hy)) (by rw [hy];rfl)
  rw [List.any_eq_true] at this
  obtain ⟨p,hp,e⟩:=this
  have e:p.2=y:=by simpa using e
  subst e
  obtain ⟨k,k2', e1,e2,e3,e4⟩:=hL p hp
  rw [hy] at e2;cases e2
  exact ⟨p.1,k,hp,e1,e3,e4,hrows p hp k k' e1 hy⟩
 ·intro x y hxy
  obtain ⟨k,k', e1,e2,_⟩:=hL _ hxy
  exact ⟨k,k', e1,e2⟩
 ·intro x x' y h1 h2
  have:=bv ((hL2 _ h1).1 _ h2).1 (beq rfl)
  simpa using this
 ·intro x y y' h1 h2
  have:=bv ((hL2 _ h1).1 _ h2).2 (beq rfl)
  simpa using this
 ·intro x y hxy
  obtain ⟨⟨⟨⟨⟨a1,a2⟩,a3⟩,_⟩,_⟩,_⟩:=hI _ hxy
  exact ⟨cy.1 a1,cy.1 a2,fun hu=>bP.1 (bv a3 (bP.2 hu))⟩
 ·intro x y y' h1 h2 hu
  obtain ⟨_,a6⟩:=hI _ h1
  have:=bv a6 (bP.2 hu)
  rw [List.all_eq_true] at this
  simpa using bv (this _ h2) (beq rfl)
 ·intro x y hxy
  obtain ⟨⟨⟨a1,a2⟩,a3⟩,a4⟩:=hF _ hxy
  exact ⟨j5 a1,cy.1 a2⟩
 ·intro x y y' h1 h2 hu
  obtain ⟨⟨⟨a1,a2⟩,a3⟩,a4⟩:=hF _ h1
  have:=bv a4 (bP.2 hu)
  rw [List.all_eq_true] at this
  simpa using bv (this _ h2) (beq rfl)
 ·intro x y y' h1 h2
  exact (hL2 _ h2).2 _ h1 rfl
def look:List (Nat × Own)→Nat→Own
 | [],_ => .unused
 | (n,o)::T,x=>if Nat.beq n x then o else look T x
def gS:Own→Own→Bool
 | .perm,.perm=>true
 | .uniq,.uniq=>true
 | _,_=>false
def aftB (fresh:Bool):Own→Own→Bool
 | .live k,.live k' => Nat.beq k'.sz k.sz && Nat.beq k'.elem k.elem
 | .dead,.dead => !fresh
 | .uniq,.uniq=>fresh
 | _,_=>false
def aftE (q:Rn) (L1:List Own) (T:List (Nat × Own)):Prs→Prop→Prop
 | [],K=>K
 | (k,x)::l,K=>match ofL L1 k,look T x with
   | .live b,.live b' => RowsRen q (ofL L1) b.rows b'.rows∧aftE q L1 T l K
   | _,_=>aftE q L1 T l K
theorem jy {q:Rn} {L1:List Own} {T:List (Nat × Own)} : ∀ {l:Prs} {K:Prop}, aftE q L1 T l K→(∀ p∈l, ∀ b b', ofL L1 p.1 = .live b→look T p.2 = .live b' → RowsRen q (ofL L1) b.rows b'.rows)∧K
 | [],K,H=>⟨by simp,H⟩
 | (k,x)::l,K,H=>by
   unfold aftE at H
   split at H
   ·rename_i b b' h1 h2
    obtain ⟨H1,H2⟩:=H
    obtain ⟨h3,h4⟩:=jy H2
    refine ⟨fun p hp a c e1 e2=>?_,h4⟩
    rcases List.mem_cons.1 hp with rfl|hp
    ·simp only at e1 e2
     rw [h1] at e1;rw [h2] at e2;cases e1;cases e2;exact H1
    ·exact h3 p hp a c e1 e2
   ·rename_i hno
    obtain ⟨h3,h4⟩:=jy H
    refine ⟨fun p hp a c e1 e2=>?_,h4⟩
    rcases List.mem_cons.1 hp with rfl|hp
    ·exact (hno _ _ e1 e2).elim
    ·exact h3 p hp a c e1 e2
def fitB:Nat→List Nat→Bool
 | _,[]=>true
 | n,x::T=>Nat.ble x n && fitB (if Nat.ble (x + 1) n then n else n + 1) T
theorem qa : ∀ {T:List (Nat × Own)} {h:List Own}, fitB h.length (T.map (·.1))=true→fitT h T
 | [],_,_=>trivial
 | (x,o)::T,h,H=>by
   simp only [List.map_cons,fitB,Bool.and_eq_true,Nat.ble_eq] at H
   refine ⟨H.1,qa ?_⟩
   have:(setO h x o).length=if x + 1≤h.length then h.length else h.length + 1:=by
    unfold setO
    by_cases hx:x < h.length
    ·rw [if_pos hx,if_pos (by omega)];simp
    ·rw [if_neg hx,if_neg (by omega)];simp
   rw [this]
   exact H.2
def dD (L1:List Own) (imm:Prs):Prs:=imm.filter fun p=>(ofL L1 p.1).isDead
def fC (L0 L1 h:List Own) (own imm bor fr:Prs) (T:List (Nat × Own)):Bool :=
 gM [] h L0 own.swap imm.swap bor.swap &&
 allN L0.length (fun k=>imp (ofL L0 k).isImm (gS (ofL L1 k) (ofL L0 k) || ((ofL L0 k).isUniq && (ofL L1 k).isDead))) &&
 fr.all (fun p => !(ofL L0 p.1).isUsed && !(ofL h p.2).isUsed && fr.all fun q=>imp (Nat.beq p.2 q.2) (Nat.beq p.1 q.1) && imp (Nat.beq p.1 q.1) (Nat.beq p.2 q.2)) &&
 own.all (fun p=>aftB false (ofL L1 p.1) (look T p.2)) && fr.all (fun p=>aftB true (ofL L1 p.1) (look T p.2)) && fitB h.length (own.map (·.2) ++ (dD L1 imm).map (·.2) ++ fr.map (·.2)) &&
 bor.all (fun p=>gS (ofL L0 p.1) .perm) && (dD L1 imm).all fun p=>(look T p.2).isDead
def outL (L1:List Own) (own fr:Prs):Prs:=(own ++ fr).filter fun p=>(ofL L1 p.1).isLive
def outI (L1:List Own) (imm bor fr:Prs):Prs:=(fr.filter fun p=>(ofL L1 p.1).isUniq) ++ imm.filter fun p=>(ofL L1 p.1).isImm && (imm.all fun q=>imp (Nat.beq p.1 q.1) (Nat.beq p.2 q.2)) && bor.all fun q => !Nat.beq p.1 q.1
theorem wV (L1:List Own) (own imm bor fr:Prs):qOf (outL L1 own fr) (outI L1 imm bor fr) []=qOut (ofL L1) own imm bor fr:=by
 unfold qOf qOut
 congr 1
 ·funext x y
  simp only [outL,List.mem_filter,List.mem_append]
  refine propext ⟨fun ⟨a,b⟩=>⟨a,j5 b⟩,fun ⟨a,k,hk⟩=>⟨a,by rw [hk];rfl⟩⟩
 ·funext x y
  simp only [outI,List.mem_filter,List.mem_append,List.all_eq_true,Bool.and_eq_true]
  refine propext ⟨?_,?_⟩
  ·rintro (⟨a,b⟩|⟨a,⟨c,b⟩,d⟩)
   ·exact .inl ⟨a,bP.1 b⟩
   ·refine .inr ⟨a,fun x' hx' => by have:=bv (b (x,x') hx') (by simp);simp at this;exact this.symm,fun x' hx' => ?_,cy.1 c⟩
    have:=d (x,x') hx'
    simp at this
  ·rintro (⟨a,b⟩|⟨a,b,d,c⟩)
   ·exact .inl ⟨a,bP.2 b⟩
   ·refine .inr ⟨a,⟨cy.2 c,fun q hq=>?_⟩,fun q hq=>?_⟩
    ·by_cases e:x=q.1
     ·have:q.2=y:=b q.2 (by rw [e];exact hq)
      simp [imp,this]
     ·have:Nat.beq x q.1=false:=by
       cases hb:Nat.beq x q.1 with
       | false=>rfl
       | true=>exact absurd (by simpa using hb) e
      simp [imp,this]
    ·cases hb:Nat.beq x q.1 with
     | false=>rfl
     | true =>
       have e:x=q.1:=by simpa using hb
       exact absurd (by rw [e];exact hq) (d q.2)
 ·funext x y
  simp
section
variable {P:Program}
theorem qCall.of {f:FuncId} {args:List AV} {L0 L1:List Own} {res:AV} (H:ACallL P f args L0 res L1) (own imm bor fr:Prs) (T:List (Nat × Own)) (res' : AV) {aa:List AV} {h:List Own} {K:AV→List Nat→List Nat→List Own→Prop}
 (hk:fC L0 L1 h own imm bor fr T=true)
 (hq:avsE own.swap imm.swap bor.swap h aa args (fz (qOf own.swap imm.swap bor.swap) h L0 own.swap (aftE (qOf (outL L1 own fr) (outI L1 imm bor fr) []) L1 T own (aftE (qOf (outL L1 own fr) (outI L1 imm bor fr) []) L1 T fr
  (av2E (outL L1 own fr) (outI L1 imm bor fr) [] L1 res res' (cg (own.map (·.2) ++ imm.map (·.2) ++ bor.map (·.2) ++ fr.map (·.2)) fun rd=>cg (own.map (·.2) ++ (dD L1 imm).map (·.2) ++ fr.map (·.2)) fun wr=>eN (wr.map fun x=>(x,look T x)) fun T=>frcL (apE h T) fun h' => frcW res' fun res' => K res' rd wr h')))))):qCall P f aa h K:=by
 obtain ⟨hargs,hq⟩:=lO hq
 obtain ⟨hrows,hq⟩:=kt hq
 obtain ⟨hown,hq⟩:=jy hq
 obtain ⟨hfr,hq⟩:=jy hq
 obtain ⟨hres,hq⟩:=pH hq
 simp only [ca,iE,ko,i8,dI] at hq
 simp only [fC,Bool.and_eq_true] at hk
 obtain ⟨⟨⟨⟨⟨⟨⟨k0,k1⟩,k2⟩,k3⟩,k4⟩,k5⟩,k6⟩,k7⟩:=hk
 have okq:=vG k0 hrows
 rw [ux] at okq hargs
 rw [wV] at hown hfr hres
 rw [List.all_eq_true] at k2 k3 k4 k6 k7
 have k2' := fun p hp=>by
  have:=k2 p hp
  simp only [Bool.and_eq_true,List.all_eq_true,Bool.not_eq_true'] at this
  exact this
 have pm : ∀ k,(ofL L0 k).imm→ofL L1 k=ofL L0 k∨(ofL L0 k = .uniq∧ofL L1 k = .dead):=fun k hi=>by
  have hu:k < L0.length:=iH (d6.2 (by intro e;rw [e] at hi;exact hi))
  have:=bv (jk k1 k hu) (cy.2 hi)
  cases e1:ofL L1 k<;>cases e2:ofL L0 k<;>rw [e1,e2] at this<;>first|exact .inl rfl|exact .inr ⟨rfl,rfl⟩|cases this
 have cf:CallFit (ofL L0) (ofL L1) (ofL h) (look T) own imm bor (dD L1 imm) fr:=by
  refine ⟨okq,pm,fun k x hx=>?_,fun k x hx=>?_,fun k x hx h0 h1=>?_,fun k x hx=>?_,fun k k' x h1 h2=>?_,fun k x x' h1 h2=>?_,fun k x hx=>?_,fun k x hx=>?_⟩
  ·have:=k6 _ hx
   cases e1:ofL L0 k<;>rw [e1] at this<;>first|rfl|cases this
  ·have h7:=k7 _ hx
   simp only [dD,List.mem_filter] at hx
   have hd:=fy.1 hx.2
   refine ⟨hx.1,?_,hd,fy.1 h7⟩
   rcases pm k (okq.I x k hx.1).2.1 with e|⟨e,_⟩
   ·have:=(okq.I x k hx.1).2.1
    rw [hd] at e
    rw [← e] at this;exact this.elim
   ·exact e
  ·simp only [dD,List.mem_filter]
   exact ⟨hx,fy.2 h1⟩
  ·have:=k2' _ hx
   exact ⟨fR.1 this.1.1,fR.1 this.1.2⟩
  ·have:=bv ((k2' _ h1).2 _ h2).1 (by simp)
   simpa using this
  ·have:=bv ((k2' _ h1).2 _ h2).2 (by simp)
   simpa using this
  ·have:=k3 _ hx
   have hr:=hown _ hx
   cases e1:ofL L1 k<;>cases e2:look T x<;>simp only [e1,e2,aftB] at this<;>first|(cases this;done)|skip
   ·exact .inr ⟨rfl,rfl⟩
   ·rename_i b b'
    simp only [Bool.and_eq_true,Nat.beq_eq] at this
    exact .inl ⟨b,b', rfl,rfl,this.1,this.2,hr b b' e1 e2⟩
  ·have:=k4 _ hx
   have hr:=hfr _ hx
   cases e1:ofL L1 k<;>cases e2:look T x<;>simp only [e1,e2,aftB] at this<;>first|(cases this;done)|skip
   ·rename_i b b'
    simp only [Bool.and_eq_true,Nat.beq_eq] at this
    exact .inl ⟨b,b', rfl,rfl,this.1,this.2,hr b b' e1 e2⟩
   ·exact .inr ⟨rfl,rfl⟩
 unfold qCall
 refine ⟨_,_,res', ACall.of H cf hargs hres,⟨?_,?_⟩,?_⟩
 ·intro q hq
  simp only [List.mem_append,List.mem_map] at hq
  rcases hq with ((⟨p,hp,rfl⟩|⟨p,hp,rfl⟩)|⟨p,hp,rfl⟩)|⟨p,hp,rfl⟩
  ·rfl
  ·rfl
  ·rfl
  ·exact fR.1 (k2' _ hp).1.2
 ·refine qa ?_
  rw [List.map_map]
  have:((fun x:Nat × Own=>x.1) ∘ fun x=>(x,look T x))=id:=by funext x;rfl
  rw [this,List.map_id]
  exact k5
 ·simp only [List.map_append,List.map_map] at hq ⊢
  exact hq
theorem qCall.pure {f:FuncId} {args:List AV} {res:AV} (H:ACallL P f args [.perm] res [.perm]) {h:List Own} {K:AV→List Nat→List Nat→List Own→Prop} (h0:eM (gS (ofL h 0) .perm) True) (ha : ∀ c∈args,Pl c) (hr:Pl res) (hq:frcW res fun res=>K res [0] [] h):qCall P f args h K:=by
 have h1:gS (ofL h 0) .perm=true:=(ei h0).1
 have h2:ofL h 0 = .perm:=by cases e:ofL h 0<;>rw [e] at h1<;>first|rfl|cases h1
 have hlen:0 < h.length:=iH (by rw [h2];rfl)
 unfold qCall
 have okq:RnOk (ofL h) (ofL [.perm]) (qIn [] [(0,0)] []):=by
  refine ⟨fun y k' hy=>?_,?_,?_,?_,?_,?_,?_,?_,?_⟩<;>try (intros;simp_all [qIn];done)
  ·exfalso;cases y<;>simp [ofL,List.getD] at hy
  ·intro x y hxy
   simp [qIn] at hxy
   obtain ⟨rfl,rfl⟩:=hxy
   rw [h2]
   exact ⟨trivial,trivial,fun e=>by cases e⟩
 have cf:CallFit (ofL [.perm]) (ofL [.perm]) (ofL h) (fun _ => .unused) [] [(0,0)] [] [] []:=⟨okq,fun _ _ => .inl rfl,by simp,by simp,fun k x _ h0 h1=>(by rw [h0] at h1;cases h1),by simp,by simp,by simp,by simp,by simp⟩
 rw [dI] at hq
 refine ⟨_,_,res,ACall.of H cf ⟨rfl,fun i c c' a b=>by rw [a] at b;cases b;exact (ha c (List.mem_of_getElem? a)).ren (by simp [qIn])⟩ (hr.ren ?_),⟨?_,trivial⟩,hq⟩
 ·exact .inr ⟨by simp,fun x' hx' => by simpa using hx', by simp,by simp [ofL,List.getD,Own.imm]⟩
 ·intro q hq
  simp at hq
  subst hq
  rfl
theorem qAW.loop (hm:P.follows .mixedOrders=true) {B:Base} {X:Type} {body:Code} {Q:AExit→List AV→List Own→Prop} {sl:List AV} {h:List Own} (F:X→List AV) (G:X→List Own) (I:X→Prop) (μ:X→Nat) (x0:X) (hI:I x0) (h0:qConv B sl h (F x0) (G x0))
 (round : ∀ x,I x→ch (F x) fun sl=>cw (G x) fun h=>ev P B body (fun e sl h=>match e with | .normal => ∃ y,I y∧μ y < μ x∧qConv B sl h (F y) (G y)|e=>Q e sl h) sl h):qAW P B (.loop body) Q sl h:=by
 unfold qAW
 unfold qConv at h0 round
 refine pX (P:=P) (X := { x:X // I x }) (fun x=>⟨F x.1,G x.1⟩) (fun x=>μ x.1) ⟨x0,hI⟩ h0 fun x=>AW.mono (bC hm _ _ ⟨_,_⟩ (dh _ _ _ _ (by have:=round x.1 x.2;simp only [bH,bZ] at this;exact this))) fun e st H=>?_
 cases e with
 | normal =>
   obtain ⟨y,h1,h2,h3⟩:=H
   exact ⟨⟨y,h1⟩,h3,h2⟩
 | exit id=>exact H
 | goto l=>exact H
 | ret=>exact H
theorem qAW.scope (hm:P.follows .mixedOrders=true) {B:Base} {X:Type} {body:Code} {Q:AExit→List AV→List Own→Prop} {sl:List AV} {h:List Own} (lab:X→Nat) (F:X→List AV) (G:X→List Own) (μ:X→Nat) (hl : ∀ x,(findLabel body (lab x)).isSome=true)
 (first:ev P B body (fun e sl h=>match e with | .goto l=>(match findLabel body l with|none=>Q (.goto l) sl h|some _ => ∃ y,lab y=l∧qConv B sl h (F y) (G y))|e=>Q e sl h) sl h)
 (pass : ∀ x,match findLabel body (lab x) with|none=>True|some rest=>ev P B rest (fun e sl h=>match e with | .goto l=>(match findLabel body l with|none=>Q (.goto l) sl h|some _ => ∃ y,lab y=l∧qConv B sl h (F y) (G y)∧μ y < μ x)|e=>Q e sl h) (F x) (G x)):qAW P B (.scope body) Q sl h:=by
 unfold qAW
 unfold qConv at first pass
 refine j8 (P:=P) lab (fun x=>⟨F x,G x⟩) μ hl (AW.mono (bC hm _ _ ⟨_,_⟩ (dh _ _ _ _ first)) fun e st H=>?_) fun x rest hr=>?_
 ·cases e with
  | normal=>exact H
  | exit id=>exact H
  | ret=>exact H
  | goto l =>
    simp only at H
    cases hf:findLabel body l with
    | none=>rw [hf] at H;exact .inr ⟨hf,H⟩
    | some r =>
      rw [hf] at H
      obtain ⟨y,h1,h2⟩:=H
      exact .inl ⟨y,h1,trivial,h2⟩
 ·have hp:=pass x
  rw [hr] at hp
  refine AW.mono (bC hm _ _ ⟨_,_⟩ (dh _ _ _ _ hp)) fun e st H=>?_
  cases e with
  | normal=>exact H
  | exit id=>exact H
  | ret=>exact H
  | goto l =>
    simp only at H
    cases hf:findLabel body l with
    | none=>rw [hf] at H;exact .inr ⟨hf,H⟩
    | some r =>
      rw [hf] at H
      obtain ⟨y,h1,h2,h3⟩:=H
      exact .inl ⟨y,h1,h3,h2⟩
def io (P:Program) (B:Base) (body:Code) (Q:AExit→List AV→List Own→Prop):Nat→AExit→List AV→List Own→Prop
 | 0,.goto l,sl,h=>(match findLabel body l with|none=>Q (.goto l) sl h|some _=>False)
 | n + 1,.goto l,sl,h=>(match findLabel body l with|none=>Q (.goto l) sl h|some rest=>ev P B rest (io P B body Q n) sl h)
 | _,.normal,sl,h=>Q .normal sl h
 | _,.ret,sl,h=>Q .ret sl h
 | _,.exit id,sl,h=>Q (.exit id) sl h
theorem qAW.jump (hm:P.follows .mixedOrders=true) (n:Nat) {B:Base} {body:Code} {Q:AExit→List AV→List Own→Prop} {sl:List AV} {h:List Own} (first:ev P B body (io P B body Q n) sl h):qAW P B (.scope body) Q sl h:=by
 let X := { p:Nat × Nat × ASt // ∃ rest,findLabel body p.2.1=some rest∧ev P B rest (io P B body Q p.1) p.2.2.sl p.2.2.h }
 have step : ∀ (n:Nat) (e:AExit) (st:ASt),io P B body Q n e st.sl st.h→jw B body (fun x:X=>x.1.2.1) (fun x=>x.1.2.2) (fun y=>y.1.1 < n) (fun e st=>Q e st.sl st.h) e st:=by
  intro n e st H
  cases e with
  | normal=>cases n<;>exact H
  | ret=>cases n<;>exact H
  | exit id=>cases n<;>exact H
  | goto l =>
    cases hf:findLabel body l with
    | none=>refine .inr ⟨hf,?_⟩;cases n<;>(simp only [io,hf] at H;exact H)
    | some rest =>
      cases n with
      | zero=>simp only [io,hf] at H
      | succ n =>
        simp only [io,hf] at H
        exact .inl ⟨⟨(n,l,st),rest,hf,H⟩,rfl,Nat.lt_succ_self n,ConvS.refl B st⟩
 unfold qAW
 refine j8 (P:=P) (X:=X) (fun x=>x.1.2.1) (fun x=>x.1.2.2) (fun x=>x.1.1) (fun x=>by obtain ⟨p,rest,h1,h2⟩:=x;simp [h1]) (AW.mono (bC hm _ _ ⟨_,_⟩ (dh _ _ _ _ first)) fun e st H=>?_) fun x rest hr=>?_
 ·have:=step n e st H
  cases e with
  | normal=>exact this
  | ret=>exact this
  | exit id=>exact this
  | goto l =>
    rcases this with ⟨y,h1,h2,h3⟩|h
    ·exact .inl ⟨y,h1,trivial,h3⟩
    ·exact .inr h
 ·obtain ⟨⟨n,l,st⟩,rest', h1,h2⟩:=x
  simp only at h1 h2 hr
  rw [h1] at hr
  cases hr
  exact AW.mono (bC hm _ _ st (dh _ _ _ _ h2)) fun e st H=>step n e st H
end
section
variable {P:Program}
theorem qOpen.of {o:Oper} {sl:List AV} {h:List Own} {r:Res} {K:AV→List Nat→List Nat→List Own→Prop} (H:OpL P o sl r) (hf:Fits h r) (hq:frcW r.av fun av=>frcL (apE h r.T) fun h' => frcL (r.rd.map (·.1)) fun rd=>frcL (r.T.map (·.1)) fun wr=>K av rd wr h'):qOpen P o sl h K:=by
 simp only [dI,ca,i8] at hq
 unfold qOpen
 exact ⟨r.rd,r.T,r.av,H.w,hf,hq⟩
theorem qOpen.pure {o:Oper} {sl:List AV} {h:List Own} {av:AV} {K:AV→List Nat→List Nat→List Own→Prop} (H:OpL P o sl ⟨av,[],[]⟩) (hq:frcW av fun av=>K av [] [] h):qOpen P o sl h K :=
 qOpen.of (r:=⟨av,[],[]⟩) H bJ (by simp only [dI,ca,i8] at hq ⊢; exact hq)
inductive LK where|b|i|s
def iG (P:Program) (t:TypeId):Option LK:=match P.underlying t with
 | some .bool=>some .b
 | some (.int _)=>some .i
 | some .string=>some .s
 | _=>none
def kR (P:Program):Nat→List Field→Option (List LK)
 | _,[]=>some []
 | n, f :: fs => if f.name ≠ "_" ∧ f.offset = n then (iG P f.type).bind fun k => (kR P (n + 1) fs).map fun ks => k :: ks else none
def lq (P:Program) (t:TypeId):Option (List LK) :=
 match P.underlying t with
 | some (.struct fs)=>if (!P.eqGuardType P.depth t && !P.stoodInHeld t)=true then kR P 0 fs.toList else none
 | _=>none
def cmpV:LK→AV→AV→Option Bool
 | .b,.val (.bool a),.val (.bool b)=>some (a == b)
 | .i,.val (.int k a),.val (.int k' b)=>if k=k' then some (a == b) else none
 | .s,.val (.string a),.val (.string b)=>some (a.toList == b.toList)
 | _,_,_=>none
def cmpC:List LK→List AV→List AV→Option Bool
 | [],[],[]=>some true
 | k::ks,a::as,b::bs=>match cmpV k a b with
   | some x=>(match cmpC ks as bs with
     | some y=>some (x && y)
     | none=>none)
   | none=>none
 | _,_,_=>none
theorem m8 {t:TypeId} {k:LK} (hk:iG P t=some k) {a b:AV} {x:Bool} (hc:cmpV k a b=some x) {m m' : Nm} {h h' : Hp} {w:World} {u v:Value} (hu:R m h w a u) (hv:R m' h' w b v) (d:Nat) :
 (Op.equalIn (d + 1) t u v).run P w = .ok x w∧dH P t=some false:=by
 unfold iG at hk
 unfold cmpV at hc
 split at hc
 ·have e1:=hu.val_inv
  have e2:=hv.val_inv
  subst e1 e2
  cases hc
  split at hk<;>first|(rename_i ht;exact ⟨run_equalIn_bool' w d t _ _ ht,by simp [dH,ht]⟩)|cases hk
 ·have e1:=hu.val_inv
  have e2:=hv.val_inv
  subst e1 e2
  split at hc
  ·rename_i hkk
   subst hkk
   cases hc
   split at hk<;>first|(rename_i ht;exact ⟨run_equalIn_int w d t _ _ _ _ ht,by simp [dH,ht]⟩)|cases hk
  ·cases hc
 ·have e1:=hu.val_inv
  have e2:=hv.val_inv
  subst e1 e2
  cases hc
  split at hk<;>first|(rename_i ht;exact ⟨run_equalIn_string w d t _ _ ht,by simp [dH,ht]⟩)|cases hk
 ·cases hc
theorem uV {m:Nm} {h:Hp} {w:World} (d:Nat) : ∀ (fs:List Field) (n:Nat) (ks:List LK) (as bs:List AV) (x:Bool) (us vs:Array Value),kR P n fs=some ks→cmpC ks as bs=some x →
 (∀ (i:Nat) (c:AV),as[i]?=some c → ∃ u,us[n + i]?=some u∧R m h w c u)→(∀ (i:Nat) (c:AV),bs[i]?=some c → ∃ u,vs[n + i]?=some u∧R m h w c u) →
 (Op.eqFields (d + 1) us vs fs).run P w = .ok x w:=by
 intro fs
 induction fs with
 | nil =>
   intro n ks as bs x us vs hf hc _ _
   simp only [kR,Option.some.injEq] at hf
   subst hf
   cases as with
   | cons a as=>simp [cmpC] at hc
   | nil =>
     cases bs with
     | cons b bs=>simp [cmpC] at hc
     | nil=>simp only [cmpC,Option.some.injEq] at hc;subst hc;simp [Op.eqFields]
 | cons f fs ih =>
   intro n ks as bs x us vs hf hc ha hb
   unfold kR at hf
   split at hf
   ·rename_i hfn
    simp only [Option.bind_eq_some_iff,Option.map_eq_some_iff] at hf
    obtain ⟨k,hk,ks', hks,rfl⟩:=hf
    cases as with
    | nil=>simp [cmpC] at hc
    | cons a as =>
    cases bs with
    | nil=>simp [cmpC] at hc
    | cons b bs =>
      simp only [cmpC] at hc
      obtain ⟨x1,hx1,y,hy,rfl⟩ : ∃ x1,cmpV k a b=some x1 ∧ ∃ y,cmpC ks' as bs=some y∧(x1 && y)=x:=by
       cases h1:cmpV k a b with
       | none=>rw [h1] at hc;cases hc
       | some x1 =>
         rw [h1] at hc
         cases h2:cmpC ks' as bs with
         | none=>rw [h2] at hc;cases hc
         | some y=>rw [h2] at hc;exact ⟨x1,rfl,y,rfl,by simpa using hc⟩
      obtain ⟨u,hu,hRu⟩:=ha 0 a rfl
      obtain ⟨v,hv,hRv⟩:=hb 0 b rfl
      obtain ⟨h1,h2⟩:=m8 (P:=P) hk hx1 hRu hRv d
      have hp : ∀ {vs:Array Value} {v:Value}, vs[n + 0]?=some v→(part f.type vs f.offset).run P w = .ok v w:=fun {vs v} hv=>by
       unfold part
       rw [hfn.2]
       simp only [Nat.add_zero] at hv
       simp only [Sem.run_bind,fj h2,Result.andThen_ok,Bool.false_eq_true,if_false,hv,Sem.run_pure]
      unfold Op.eqFields
      rw [if_pos hfn.1]
      simp only [Sem.run_bind,hp hu,hp hv,Result.andThen_ok,h1]
      cases x1 with
      | false=>simp
      | true =>
        simp only [Bool.not_true,Bool.false_eq_true,if_false,Bool.true_and]
        exact ih (n + 1) ks' as bs y us vs hks hy (fun i c hc=>by have:=ha (i + 1) c hc;rwa [show n + (i + 1)=n + 1 + i by omega] at this) (fun i c hc=>by have:=hb (i + 1) c hc;rwa [show n + (i + 1)=n + 1 + i by omega] at this)
   ·cases hf
theorem R.agg_inv {m:Nm} {h:Hp} {w:World} {cs:List AV} {v:Value} (hR:R m h w (.agg cs) v) : ∃ vs:Array Value,v = .agg vs∧cs.length=vs.size ∧ ∀ (i:Nat) (c:AV),cs[i]?=some c → ∃ u,vs[i]?=some u∧R m h w c u:=by
 cases hR with
 | agg _ vs hl hc =>
   refine ⟨vs,rfl,hl,fun i c hi=>?_⟩
   have:i < vs.size:=by rw [← hl];exact (List.getElem?_eq_some_iff.1 hi).1
   exact ⟨vs[i],Array.getElem?_eq_getElem this,hc i c _ hi (Array.getElem?_eq_getElem this)⟩
theorem pV {o:Oper} {op:BinOp} {t u:TypeId} {x y:Operand} {sl:List AV} {as bs:List AV} {ks:List LK} {b:Bool} (ho:o.op = .binOp op t x y u) (hop:op = .eql∨op = .neq) (h1:ae sl x = .agg as) (h2:ae sl y = .agg bs) (hk:lq P t=some ks) (hc:cmpC ks as bs=some b) :
 OpL P o sl ⟨.val (.bool (if op = .eql then b else !b)),[],[]⟩ :=
 OpL.pure fun m hh w a rel hops=>by
  have hx:=hops x (by simp [ho,Op.operands])
  have hy:=hops y (by simp [ho,Op.operands])
  rw [h1] at hx
  rw [h2] at hy
  obtain ⟨us,e1,_,hus⟩:=hx.agg_inv
  obtain ⟨vs,e2,_,hvs⟩:=hy.agg_inv
  unfold lq at hk
  split at hk
  ·rename_i fs hfs
   have g3:P.underlying t=some (.struct (P.fieldsOf t)):=by simp [Program.fieldsOf,hfs]
   have hfs' : fs=P.fieldsOf t:=by simp [Program.fieldsOf,hfs]
   subst hfs'
   split at hk
   case isFalse=>cases hk
   rename_i hg
   simp only [Bool.and_eq_true,Bool.not_eq_true'] at hg
   obtain ⟨g1,g2⟩:=hg
   have hr:(Op.equalIn 10000 t (.agg us) (.agg vs)).run P w = .ok b w:=by
    rw [run_equalIn_struct w 9999 t us vs g3 g2]
    exact uV (m:=m) (h:=hh) 9998 _ 0 ks as bs b us vs hk hc (fun i c hi=>by simpa using hus i c hi) (fun i c hi=>by simpa using hvs i c hi)
   refine ⟨.bool (if op = .eql then b else !b),?_,.val _⟩
   rcases hop with rfl|rfl
   ·simp [execOp,ho,e1,e2,run_eqGuard_agg w .eql t x y us vs g1,run_eql_struct,hr]
   ·simp [execOp,ho,e1,e2,run_eqGuard_agg w .neq t x y us vs g1,run_neq_struct,hr]
  ·cases hk
theorem qOpen.eq {o:Oper} {t u:TypeId} {x y:Operand} {sl:List AV} {h:List Own} {as bs:List AV} {ks:List LK} {b:Bool} {K:AV→List Nat→List Nat→List Own→Prop} (hk:lq P t=some ks) (ho:o.op = .binOp .eql t x y u) (h1:ae sl x = .agg as) (h2:ae sl y = .agg bs) (hc:cmpC ks as bs=some b)
 (hq:K (.val (.bool b)) [] [] h):qOpen P o sl h K:=qOpen.pure (pV ho (.inl rfl) h1 h2 hk hc) hq
theorem qOpen.ne {o:Oper} {t u:TypeId} {x y:Operand} {sl:List AV} {h:List Own} {as bs:List AV} {ks:List LK} {b:Bool} {K:AV→List Nat→List Nat→List Own→Prop} (hk:lq P t=some ks) (ho:o.op = .binOp .neq t x y u) (h1:ae sl x = .agg as) (h2:ae sl y = .agg bs) (hc:cmpC ks as bs=some b)
 (hq:K (.val (.bool (!b))) [] [] h):qOpen P o sl h K:=qOpen.pure (pV ho (.inr rfl) h1 h2 hk hc) hq
theorem og {o:Oper} {op:BinOp} {t u:TypeId} {x y:Operand} {sl:List AV} {p q:Bool} (ht:iG P t=some .b) (ho:o.op = .binOp op t x y u) (hop:op = .eql∨op = .neq) (h1:ae sl x = .val (.bool p)) (h2:ae sl y = .val (.bool q)) :
 OpL P o sl ⟨.val (.bool (if op = .eql then p == q else !(p == q))),[],[]⟩ :=
 OpL.pure fun m hh w a rel hops=>by
  have hx:=hops x (by simp [ho,Op.operands])
  have hy:=hops y (by simp [ho,Op.operands])
  rw [h1] at hx
  rw [h2] at hy
  have e1:=hx.val_inv
  have e2:=hy.val_inv
  have hr:=(m8 (P:=P) (a := .val (.bool p)) (b := .val (.bool q)) (x:=p == q) ht rfl (R.val (m:=m) (h:=hh) (w:=w) _) (R.val (m:=m) (h:=hh) (w:=w) _) 9999).1
  refine ⟨_,?_,.val _⟩
  rcases hop with rfl|rfl
  ·simp [execOp,ho,e1,e2,eqGuard,binOp,Op.equal,Op.maxDepth,hr]
  ·simp [execOp,ho,e1,e2,eqGuard,binOp,Op.equal,Op.maxDepth,hr]
theorem qOpen.eqb {o:Oper} {t u:TypeId} {x y:Operand} {sl:List AV} {h:List Own} {p q:Bool} {K:AV→List Nat→List Nat→List Own→Prop} (ht:iG P t=some .b) (ho:o.op = .binOp .eql t x y u) (h1:ae sl x = .val (.bool p)) (h2:ae sl y = .val (.bool q))
 (hq:K (.val (.bool (p == q))) [] [] h):qOpen P o sl h K:=qOpen.pure (og ht ho (.inl rfl) h1 h2) hq
theorem qOpen.neb {o:Oper} {t u:TypeId} {x y:Operand} {sl:List AV} {h:List Own} {p q:Bool} {K:AV→List Nat→List Nat→List Own→Prop} (ht:iG P t=some .b) (ho:o.op = .binOp .neq t x y u) (h1:ae sl x = .val (.bool p)) (h2:ae sl y = .val (.bool q))
 (hq:K (.val (.bool (!(p == q)))) [] [] h):qOpen P o sl h K:=qOpen.pure (og ht ho (.inr rfl) h1 h2) hq
end
section
variable {P:Program}
theorem fS (x:Nat):ofL [.perm] x = .perm∧x=0∨ofL [.perm] x = .unused∧x≠0:=by
 cases x<;>simp [ofL,List.getD]
theorem ub {m:Nm} {W:World} (hm : ∀ g,m.set 0 g ↔ g < W.heap.size):Rel m (ofL [.perm]) W:=by
 have nolive : ∀ id k,ofL [Own.perm] id ≠ .live k:=fun id k h=>by rcases fS id with ⟨e,_⟩|⟨e,_⟩<;>rw [e] at h<;>cases h
 have nouniq : ∀ id,ofL [Own.perm] id ≠ .uniq:=fun id h=>by rcases fS id with ⟨e,_⟩|⟨e,_⟩<;>rw [e] at h<;>cases h
 refine ⟨fun id k h=>(nolive id k h).elim,fun id id' k k' h=>(nolive id k h).elim,fun id k r h=>(nolive id k h).elim,fun r r' g h=>(nouniq r h).elim,fun r g h hs=>?_,fun r g h=>(nouniq r h).elim⟩
 rcases fS r with ⟨e,rfl⟩|⟨e,_⟩
 ·exact (hm g).1 hs
 ·rw [e] at h;exact h.elim
theorem xc {f:FuncId} {av:AV} (H:ACallL P f [av] [.perm] (.val (.bool true)) [.perm]) {W:World} {v:Value} (hR : ∀ m:Nm,(∀ g,m.set 0 g ↔ g < W.heap.size)→R m (ofL [.perm]) W av v) :
 Calls P f #[v] W fun e W' => e = .returned (.bool true)∧Below W.heap.size W W' := by
 let m:Nm:=⟨fun _=>(0,0),fun r g=>g < W.heap.size⟩
 have hm : ∀ g,m.set 0 g ↔ g < W.heap.size:=fun g=>Iff.rfl
 refine (H.2 m W #[v] (ub hm) ⟨rfl,fun i c u h1 h2=>?_⟩).mono ?_
 ·cases i with
  | zero=>simp at h1 h2;subst h1 h2;exact hR m hm
  | succ i=>simp at h1
 ·rintro e w' ⟨u,m', rfl,rel,ev,hu⟩
  have:=hu.val_inv
  subst this
  refine ⟨rfl,ev.os,ev.tape,ev.output,ev.size,fun k hk=>ev.frame k hk (fun id b h=>?_) (fun r h=>?_)⟩
  ·rcases fS id with ⟨e,_⟩|⟨e,_⟩<;>rw [e] at h<;>cases h
  ·rcases fS r with ⟨e,_⟩|⟨e,_⟩<;>rw [e] at h<;>cases h
end
section
variable {P:Program} {o:Oper} {sl:List AV} {h:List Own} {t e:TypeId} {x y:Operand} {rd:List (Nat × Own)}
theorem idxL {r sz:Nat} {rows:List (List AV)} {row:List AV} {k:IntKind} {n:Int} (ho:o.op = .indexAddr t x y) (hx:ae sl x = .list r sz rows) (hy:ae sl y = .val (.int k n)) (he:bw P t=some e) (hs:aY P e=some sz)
 (hl:alive (ofL h) (.list r sz rows)=some rd) (hn:0≤n) (hrow:rows[n.toNat]?=some row):aop P o sl h=some ⟨.lptr r row 0,rd,[]⟩:=by
 unfold aop
 rw [ho]
 simp only [hx,hy]
 unfold aindex
 simp only [he,hs,hn,hrow,hl,and_self,if_true,Option.map_some,Option.bind_some]
theorem idxS {b i len sz:Nat} {bk:Blk} {k:IntKind} {n:Int} (ho:o.op = .indexAddr t x y) (hx:ae sl x = .sl b i len) (hy:ae sl y = .val (.int k n)) (he:bw P t=some e) (hs:aY P e=some sz)
 (hb:ofL h b = .live bk) (hz:bk.sz=sz) (hl:alive (ofL h) (.sl b i len)=some rd) (hn:0≤n∧n < len):aop P o sl h=some ⟨.ptr b (i + n.toNat) 0,rd,[]⟩:=by
 unfold aop
 rw [ho]
 simp only [hx,hy]
 unfold aindex
 simp only [he,hs,hb,hz,hn.1,hn.2,hl,and_self,if_true,Option.map_some,Option.bind_some]
theorem ldR {b i j sz:Nat} {bk:Blk} {row:List AV} {ag:Bool} {av:AV} (ho:o.op = .load t x) (hx:ae sl x = .ptr b i j) (ha:dH P t=some ag) (hs:aY P t=some sz) (hb:ofL h b = .live bk) (hrow:bk.rows[i]?=some row)
 (hv:(if ag then (if j + sz≤row.length then some (AV.agg ((row.drop j).take sz)) else none) else row[j]?)=some av):aop P o sl h=some ⟨av,[(b,.live bk)],[]⟩:=by
 unfold aop
 rw [ho]
 simp only [hx]
 unfold aload
 simp only [ha,hs,hb,hrow,hv,Option.map_some]
theorem stR {b i j sz:Nat} {bk:Blk} {row:List AV} (ho:o.op = .store t x y) (hx:ae sl x = .ptr b i j) (hs:aY P t=some sz) (hb:ofL h b = .live bk) (hrow:bk.rows[i]?=some row)
 (hc:(ae sl y).cells.length=sz) (h1:(ae sl y).cells.all AV.one=true) (hj:j + sz≤row.length) :
 aop P o sl h=some ⟨.val undef,[(b,.live bk)],[(b,.live { bk with rows:=bk.rows.set i (row.take j ++ (ae sl y).cells ++ row.drop (j + sz)) })]⟩:=by
 unfold aop
 rw [ho]
 simp only
 rw [hx]
 unfold astore
 simp only [hs,hb,hrow,hc,h1,hj,and_self,if_true]
theorem slL {r sz:Nat} {rows:List (List AV)} {lo hi mx:Option Operand} {l hh mm:Option Int} (ho:o.op = .slice t x lo hi mx) (hx:ae sl x = .list r sz rows) (hlo:abnd sl lo=some l) (hhi:abnd sl hi=some hh) (hmx:abnd sl mx=some mm) (he:bw P t=some e) (hs:aY P e=some sz)
 (hl:alive (ofL h) (.list r sz rows)=some rd) (hc:0≤l.getD 0∧l.getD 0≤hh.getD rows.length∧hh.getD rows.length≤mm.getD rows.length∧mm.getD rows.length≤rows.length∧(mm=none∨hh≠none)) :
 aop P o sl h=some ⟨.list r sz ((rows.drop (l.getD 0).toNat).take (hh.getD rows.length - l.getD 0).toNat),rd,[]⟩:=by
 unfold aop
 rw [ho]
 simp only [hx,hlo,hhi,hmx,Option.bind_some]
 unfold aslice
 simp only [he,hs,alen]
 rw [if_pos hc]
 simp only [hl,if_true,Option.bind_some,Option.map_some]
theorem slG {r sz:Nat} {rows:List (List AV)} {lo hi mx:Option Operand} {l hh mm:Option Int} (ho:o.op = .slice t x lo hi mx) (hx:ae sl x = .glist r sz rows) (hlo:abnd sl lo=some l) (hhi:abnd sl hi=some hh) (hmx:abnd sl mx=some mm) (he:bw P t=some e) (hs:aY P e=some sz)
 (hl:alive (ofL h) (.glist r sz rows)=some rd) (hc:0≤l.getD 0∧l.getD 0≤hh.getD rows.length∧hh.getD rows.length≤mm.getD rows.length∧mm.getD rows.length≤rows.length∧(mm=none∨hh≠none)) :
 aop P o sl h=some ⟨.list r sz ((rows.drop (l.getD 0).toNat).take (hh.getD rows.length - l.getD 0).toNat),rd,[]⟩:=by
 unfold aop
 rw [ho]
 simp only [hx,hlo,hhi,hmx,Option.bind_some]
 unfold aslice
 simp only [he,hs,alen]
 rw [if_pos hc]
 simp only [hl,if_true,Option.bind_some,Option.map_some]
theorem slS {b i n sz:Nat} {bk:Blk} {lo hi mx:Option Operand} {l hh mm:Option Int} (ho:o.op = .slice t x lo hi mx) (hx:ae sl x = .sl b i n) (hlo:abnd sl lo=some l) (hhi:abnd sl hi=some hh) (hmx:abnd sl mx=some mm) (he:bw P t=some e) (hs:aY P e=some sz)
 (hb:ofL h b = .live bk) (hz:bk.sz=sz) (hl:alive (ofL h) (.sl b i n)=some rd) (hc:0≤l.getD 0∧l.getD 0≤hh.getD n∧hh.getD n≤mm.getD n∧mm.getD n≤n∧(mm=none∨hh≠none)) :
 aop P o sl h=some ⟨.sl b (i + (l.getD 0).toNat) (hh.getD n - l.getD 0).toNat,rd,[]⟩:=by
 unfold aop
 rw [ho]
 simp only [hx,hlo,hhi,hmx,Option.bind_some]
 unfold aslice
 simp only [he,hs,alen]
 rw [if_pos hc]
 simp only [hb,hz,hl,if_true,Option.bind_some,Option.map_some]
theorem idxG {r sz:Nat} {rows:List (List AV)} {row:List AV} {k:IntKind} {n:Int} (ho:o.op = .indexAddr t x y) (hx:ae sl x = .glist r sz rows) (hy:ae sl y = .val (.int k n)) (he:bw P t=some e) (hs:aY P e=some sz)
 (hl:alive (ofL h) (.glist r sz rows)=some rd) (hn:0≤n) (hrow:rows[n.toNat]?=some row):aop P o sl h=some ⟨.lptr r row 0,rd,[]⟩:=by
 unfold aop
 simp only [ho,hx,hy]
 simp [aindex,he,hs,hn,hrow,hl]
theorem apG {r sz nb:Nat} {rows new:List (List AV)} {Y:AV} {z:List Value} (ho:o.op = .call { callee := .builtin .append,args := #[x,y],argTypes := #[t,t] }) (hx:ae sl x = .glist r sz rows) (hy:ae sl y=Y)
 (hl:alive (ofL h) Y=some rd) (hr:ofL h r = .uniq) (hrows:arows (ofL h) Y=some (sz,new)) (he:bw P t=some e) (hs:aY P e=some sz) (hb:en P e=some nb) (hz:dA P e=some z) (h0:0 < sz∧0 < nb∧z.length=sz)
 (hone:new.all (fun r=>r.all AV.one)=true) (hsz:(rows.length + new.length) * nb≤140737488355328) :
 aop P o sl h=some ⟨.glist h.length sz (rows ++ new),(r,.uniq)::(h.length,.unused)::rd,[(r,.dead),(h.length,.uniq)]⟩:=by
 unfold aop
 simp only [ho,hx,hy]
 simp [aapp,agrow,he,hs,hb,hz,hrows,hr,hl,h0,hone,hsz]
theorem apN {sz nb:Nat} {new:List (List AV)} {Y:AV} {z:List Value} (ho:o.op = .call { callee := .builtin .append,args := #[x,y],argTypes := #[t,t] }) (hx:ae sl x = .val (.slice none 0 0)) (hy:ae sl y=Y)
 (hl:alive (ofL h) Y=some rd) (hrows:arows (ofL h) Y=some (sz,new)) (he:bw P t=some e) (hs:aY P e=some sz) (hb:en P e=some nb) (hz:dA P e=some z) (h0:0 < sz∧0 < nb∧z.length=sz)
 (hone:new.all (fun r=>r.all AV.one)=true) (hn:new.length≠0) (hsz:new.length * nb≤140737488355328) :
 aop P o sl h=some ⟨.sl h.length 0 new.length,(h.length,.unused)::rd,[(h.length,.live ⟨sz,e,new⟩)]⟩:=by
 unfold aop
 simp only [ho,hx,hy]
 simp [aapp,aappend,he,hs,hb,hz,hrows,hl,h0,hone,hsz,hn]
theorem apS {b i n sz nb:Nat} {bk:Blk} {new:List (List AV)} {Y:AV} {z:List Value} (ho:o.op = .call { callee := .builtin .append,args := #[x,y],argTypes := #[t,t] }) (hx:ae sl x = .sl b i n) (hy:ae sl y=Y)
 (hl:alive (ofL h) Y=some rd) (hbk:ofL h b = .live bk) (hrows:arows (ofL h) Y=some (sz,new)) (he:bw P t=some e) (hs:aY P e=some sz) (hb:en P e=some nb) (hz:dA P e=some z) (h0:0 < sz∧0 < nb∧z.length=sz)
 (hone:new.all (fun r=>r.all AV.one)=true) (h1:bk.sz=sz∧bk.elem=e∧i + n=bk.rows.length) (h2:bk.rows.all (fun r=>r.all AV.one)=true) (hsz:(n + new.length) * nb≤140737488355328) :
 aop P o sl h=some ⟨.sl h.length 0 (n + new.length),(b,.live bk)::(h.length,.unused)::rd,[(b,.dead),(h.length,.live ⟨sz,e,bk.rows.drop i ++ new⟩)]⟩:=by
 unfold aop
 simp only [ho,hx,hy]
 simp [aapp,aappend,he,hs,hb,hz,hrows,hl,h0,hone,hsz,hbk,h1.1,h1.2.1,h1.2.2,h2]
end
section
variable {P:Program}
def qO (P:Program) (B:Base) (body:Code) (Q:AExit→List AV→List Own→Prop):Nat→AExit→List AV→List Own→Prop
 | 0,.normal,sl,h=>False
 | n + 1,.normal,sl,h=>ev P B body (qO P B body Q n) sl h
 | _,.exit id,sl,h=>Q (.exit id) sl h
 | _,.goto l,sl,h=>Q (.goto l) sl h
 | _,.ret,sl,h=>Q .ret sl h
theorem qAW.unroll (hm:P.follows .mixedOrders=true) (n:Nat) {B:Base} {body:Code} {Q:AExit→List AV→List Own→Prop} {sl:List AV} {h:List Own} (first:ev P B body (qO P B body Q n) sl h):qAW P B (.loop body) Q sl h:=by
 unfold qAW
 intro m w a hs hev
 refine wp_loop_rounds (n + 1) ?_
 have key : ∀ n (sl:List AV) (h:List Own),ev P B body (qO P B body Q n) sl h → ∀ m w a,StR m sl (ofL h) a w→B.ev m (ofL h) w→Code.rounds P body (fun e a' w' => ∃ (e' : AExit) (st' : ASt) (m' : Nm),e=AExit.conc e' ∧ Q e' st'.sl st'.h∧StR m' st'.sl (ofL st'.h) a' w' ∧ B.ev m' (ofL st'.h) w') (n + 1) a w:=by
  intro n
  induction n with
  | zero =>
    intro sl h H m w a hs hev
    rw [rounds_succ]
    refine wp_mono (bC hm _ _ ⟨sl,h⟩ (dh _ _ _ _ H) m w a hs hev) ?_
    rintro e a' w' ⟨e', st', m', rfl,hq,hs', ev'⟩
    cases e' with
    | normal=>exact hq.elim
    | exit id=>exact ⟨.exit id,st', m', rfl,hq,hs', ev'⟩
    | goto l=>exact ⟨.goto l,st', m', rfl,hq,hs', ev'⟩
    | ret=>exact ⟨.ret,st', m', rfl,hq,hs', ev'⟩
  | succ n ih =>
    intro sl h H m w a hs hev
    rw [rounds_succ]
    refine wp_mono (bC hm _ _ ⟨sl,h⟩ (dh _ _ _ _ H) m w a hs hev) ?_
    rintro e a' w' ⟨e', st', m', rfl,hq,hs', ev'⟩
    cases e' with
    | normal=>exact ih st'.sl st'.h hq m' w' a' hs' ev'
    | exit id=>exact ⟨.exit id,st', m', rfl,hq,hs', ev'⟩
    | goto l=>exact ⟨.goto l,st', m', rfl,hq,hs', ev'⟩
    | ret=>exact ⟨.ret,st', m', rfl,hq,hs', ev'⟩
 exact key n sl h first m w a hs hev
theorem qCall.fresh {f:FuncId} {args:List AV} (res:Nat→AV) (H:ACallL P f args [.perm] (res 1) [.perm,.uniq]) (imm bor:Prs) {aa:List AV} {h:List Own} {K:AV→List Nat→List Nat→List Own→Prop}
 (hk:fC [.perm] [.perm,.uniq] h [] imm bor [(1,h.length)] [(h.length,.uniq)]=true)
 (hq:avsE [] imm.swap bor.swap h aa args (av2E (outL [.perm,.uniq] [] [(1,h.length)]) (outI [.perm,.uniq] imm bor [(1,h.length)]) [] [.perm,.uniq] (res 1) (res h.length)
  (cg (imm.map (·.2) ++ bor.map (·.2) ++ [h.length]) fun rd=>cg [h.length] fun wr=>eN (wr.map fun x=>(x,look [(h.length,.uniq)] x)) fun T=>frcL (apE h T) fun h' => frcW (res h.length) fun res' => K res' rd wr h'))):qCall P f aa h K:=by
 refine qCall.of H [] imm bor [(1,h.length)] [(h.length,.uniq)] (res h.length) hk ?_
 have e:(dD [.perm,.uniq] imm).map (·.2)=[]:=by
  have:dD [.perm,.uniq] imm=[]:=by
   unfold dD
   rw [List.filter_eq_nil_iff]
   intro p _
   rcases p with ⟨_|_|k,x⟩<;>simp [ofL,List.getD,Own.isDead]
  rw [this];rfl
 have key:aftE (qOf (outL [.perm,.uniq] [] [(1,h.length)]) (outI [.perm,.uniq] imm bor [(1,h.length)]) []) [.perm,.uniq] [(h.length,.uniq)] [(1,h.length)]=fun K=>K:=by
  funext K
  unfold aftE
  simp only [ofL,List.getD]
  rfl
 simp only [key,e]
 exact hq
theorem qCall.reads {f:FuncId} {args:List AV} {res:AV} (H:ACallL P f args [.perm] res [.perm]) (imm bor:Prs) {aa:List AV} {h:List Own} {K:AV→List Nat→List Nat→List Own→Prop}
 (hk:fC [.perm] [.perm] h [] imm bor [] []=true)
 (hq:avsE [] imm.swap bor.swap h aa args (av2E [] (outI [.perm] imm bor []) [] [.perm] res res (cg (imm.map (·.2) ++ bor.map (·.2)) fun rd=>frcL h fun h' => frcW res fun res' => K res' rd [] h'))):qCall P f aa h K:=by
 refine qCall.of H [] imm bor [] [] res hk ?_
 have e:(dD [.perm] imm).map (·.2)=[]:=by
  have:dD [.perm] imm=[]:=by
   unfold dD
   rw [List.filter_eq_nil_iff]
   intro p _
   rcases p with ⟨_|k,x⟩<;>simp [ofL,List.getD,Own.isDead]
  rw [this];rfl
 simp only [e,List.map_nil,List.nil_append,List.append_nil,cg,eN,apE,aftE]
 exact hq
theorem RowsRen.pl2 {L I F:Prs} {h:Hp} {rows rows' : List (List AV)} (h0:I.has 0 0=true) (e:rows=rows') (hp:PlRows rows'):RowsRen (qOf L I F) h rows rows' := .pl h0 e (e ▸ hp)
def AV.isVal:AV→Bool | .val _=>true|_=>false
theorem RowsRen.vals {q:Rn} {h:Hp} {rows rows' : List (List AV)} (e:rows=rows') (hv:rows'.all (fun r=>r.all AV.isVal)=true):RowsRen q h rows rows' := by
 subst e
 refine ⟨rfl,fun i row row' a b=>by rw [a] at b;cases b;rfl,fun i j row row' c c' a b d e=>?_⟩
 rw [a] at b;cases b
 rw [d] at e;cases e
 have:=List.all_eq_true.1 (List.all_eq_true.1 hv row (List.mem_of_getElem? a)) c (List.mem_of_getElem? d)
 cases c<;>simp [AV.isVal] at this
 exact .val _
theorem iW {a:List Oper} {b:List (List Nat × List Nat)} (h:eV a b=true):eV a b=true:=h
theorem bz {α:Type} {a b:α} (h:a=b):a=b:=h
theorem bD {q:Rn} {h:Hp} {a b:List (List AV)} (H:RowsRen q h a b):RowsRen q h a b:=H
def AV.someSl:AV→Bool
 | .list _ _ (_::_)=>true
 | .glist _ _ (_::_)=>true
 | .sl _ _ _=>true
 | _=>false
theorem R.someSl {m:Nm} {h:Hp} {w:World} {look:Nat→Own} {c:AV} {v:Value} {rd:List (Nat × Own)} (rel:Rel m h w) (hc:c.someSl=true) (hl:alive look c=some rd) (hrd : ∀ p∈rd,h p.1=p.2) (hR:R m h w c v) : ∃ a n cap,v = .slice (some a) n cap:=by
 cases c<;>simp only [AV.someSl,Bool.false_eq_true] at hc
 case list r sz rows =>
  cases rows with
  | nil=>cases hc
  | cons row rows =>
    obtain ⟨kd,hk,rfl⟩:=eP hl
    rcases R.list_inv (by rw [hrd (_,kd) (by simp)];exact hk) hR with ⟨h1,h2⟩|⟨h1,a,cap,h2,_⟩|⟨g,off,cap,e,_⟩
    ·cases h1
    ·cases h1
    ·exact ⟨_,_,_,e⟩
 case glist r sz rows =>
  cases rows with
  | nil=>cases hc
  | cons row rows =>
    obtain ⟨kd,hk,rfl⟩:=el hl
    rcases R.list_inv (by rw [hrd (_,kd) (by simp)];exact hk) hR.g2l with ⟨h1,h2⟩|⟨h1,a,cap,h2,_⟩|⟨g,off,cap,e,_⟩
    ·cases h1
    ·cases h1
    ·exact ⟨_,_,_,e⟩
 case sl b i n =>
  obtain ⟨k,rfl⟩:=oe hl
  obtain ⟨off,cap,e,_⟩:=R.sl_inv rel (hrd (_,.live k) (by simp)) hR
  exact ⟨_,_,_,e⟩
theorem wU {o:Oper} {t u e:TypeId} {x y:Operand} {sl:List AV} {look:Nat→Own} {rd:List (Nat × Own)} (ht:bw P t=some e) (ho:o.op = .binOp .eql t x y u) (h1:(ae sl x).someSl=true) (hl:alive look (ae sl x)=some rd) (h2:ae sl y = .val (.slice none 0 0)) :
 OpL P o sl ⟨.val (.bool false),rd,[]⟩ :=
 OpL.pureR fun m hh w a hrd rel hops=>by
  have hx:=hops x (by simp [ho,Op.operands])
  have hy:=hops y (by simp [ho,Op.operands])
  rw [h2] at hy
  have e2:=hy.val_inv
  obtain ⟨ad,n,cap,e1⟩:=R.someSl rel h1 hl hrd hx
  have he:=Lib.run_eql_slice_nil (P:=P) w t e (some ad) n cap 0 0 (di ht)
  refine ⟨_,?_,.val _⟩
  simp [execOp,ho,e1,e2,eqGuard,he]
theorem qOpen.nilF {o:Oper} {t u e:TypeId} {x y:Operand} {sl:List AV} {h:List Own} {rd:List (Nat × Own)} {K:AV→List Nat→List Nat→List Own→Prop} (ht:bw P t=some e) (ho:o.op = .binOp .eql t x y u) (h1:(ae sl x).someSl=true) (hl:alive (ofL h) (ae sl x)=some rd) (h2:ae sl y = .val (.slice none 0 0))
 (hq:frcL h fun h' => cg (rd.map (·.1)) fun rd=>K (.val (.bool false)) rd [] h'):qOpen P o sl h K :=
 qOpen.of (wU ht ho h1 hl h2) ⟨fun q hq=>fK hl q hq,trivial⟩ (by simp only [ca,iE,dI,apE] at hq ⊢; exact hq)
theorem Rel.addU {m:Nm} {w w' : World} (rel:Rel m (ofL [.perm]) w) (bel:Below w.heap.size w w'):Rel (m.of 1 fun _=>False) (ofL [.perm,.uniq]) w' ∧ Ev m (ofL [.perm]) w (m.of 1 fun _=>False) (ofL [.perm,.uniq]) w' := by
 obtain ⟨o1,o2,o3,hs,hg⟩:=bel
 have h0:ofL [.perm,.uniq] 0 = .perm:=rfl
 have h1:ofL [.perm,.uniq] 1 = .uniq:=rfl
 have h2 : ∀ k,ofL [.perm,.uniq] (k + 2) = .unused:=fun k=>by simp [ofL,List.getD]
 have p0:ofL [.perm] 0 = .perm:=rfl
 have p2 : ∀ k,ofL [.perm] (k + 1) = .unused:=fun k=>by simp [ofL,List.getD]
 have nl : ∀ x k,ofL [.perm,.uniq] x ≠ .live k:=fun x k h=>by
  rcases x with _|_|x
  ·rw [h0] at h;cases h
  ·rw [h1] at h;cases h
  ·rw [h2] at h;cases h
 have nl' : ∀ x k,ofL [.perm] x ≠ .live k:=fun x k h=>by
  rcases x with _|x
  ·rw [p0] at h;cases h
  ·rw [p2] at h;cases h
 have ev:Ev m (ofL [.perm]) w (m.of 1 fun _=>False) (ofL [.perm,.uniq]) w' := by
  refine ⟨fun _ _=>rfl,fun x hx=>?_,fun x=>?_,hs,fun x k k' h=>absurd h (nl' x k),fun g hg' _ _=>hg g hg', fun x k _ h=>absurd h (nl x k),fun r g h3 h4 h5=>?_,o1,o2,o3⟩
  ·rcases x with _|x
   ·rfl
   ·rw [p2] at hx;exact absurd rfl hx
  ·rcases x with _|_|x
   ·rw [p0,h0];trivial
   ·rw [p2];trivial
   ·rw [p2];trivial
  ·rcases r with _|_|r
   ·rw [h0] at h4;cases h4
   ·rw [Nm.of_same] at h5;exact h5.elim
   ·rw [h2] at h4;cases h4
 have im : ∀ r g,(ofL [.perm,.uniq] r).imm→(m.of 1 fun _=>False).set r g→r=0∧m.set 0 g:=fun r g hr hs=>by
  rcases r with _|_|r
  ·exact ⟨rfl,hs⟩
  ·rw [Nm.of_same] at hs;exact hs.elim
  ·rw [h2] at hr;exact hr.elim
 refine ⟨⟨fun x k h=>absurd h (nl x k),fun x y k k' h=>absurd h (nl x k),fun x k r h=>absurd h (nl x k),fun r r' g hr _ _ hs _=>?_,fun r g hr hs=>?_,fun r g hr hs=>?_⟩,ev⟩
 ·obtain ⟨rfl,_⟩:=im r g (by rw [hr];trivial) hs
  rw [h0] at hr;cases hr
 ·obtain ⟨rfl,h⟩:=im r g hr hs
  exact Nat.lt_of_lt_of_le (rel.bound 0 g (by rw [p0];trivial) h) (by assumption)
 ·obtain ⟨rfl,_⟩:=im r g (by rw [hr];trivial) hs
  rw [h0] at hr;cases hr
theorem ACallL.of_calls {f:FuncId} {args:List AV} {res:AV} (hc:cn P f) (H : ∀ (m:Nm) (w:World) (vs:Array Value),Rel m (ofL [.perm]) w→RL m (ofL [.perm]) w args vs→Calls P f vs w fun e w' => ∃ v,e = .returned v∧Below w.heap.size w w' ∧ ∀ m', R m' (ofL [.perm,.uniq]) w' res v) :
 ACallL P f args [.perm] res [.perm,.uniq] :=
 ⟨hc,fun m w vs rel hl=>(H m w vs rel hl).mono fun e w' ⟨v,h1,h2,h3⟩=>⟨v,_,h1,(Rel.addU rel h2).1,(Rel.addU rel h2).2,h3 _⟩⟩
theorem R.nil_inv {m:Nm} {h:Hp} {w:World} {r sz:Nat} {v:Value} (hi:(h r).imm) (hR:R m h w (.list r sz []) v):v = .slice none 0 0 ∨ ∃ a cap,v = .slice (some a) 0 cap:=by
 rcases R.list_inv hi hR with ⟨_,e⟩|⟨_,a,cap,e,_⟩|⟨g,off,cap,e,_⟩
 ·exact .inl e
 ·exact .inr ⟨a,cap,e⟩
 ·exact .inr ⟨_,cap,e⟩
structure Hold (q:Prop):Prop where
 out:q
theorem gT {p q:Prop} (k:q) (h:Hold q→p:=by first|(intro hQ;(first|(with_reducible first|refine va ?_|refine ai ‹_› ?_|refine aj ‹_› ?_)|((with_reducible refine ai ?_ ?_);focus decide)|((with_reducible refine aj ?_ ?_);focus decide)|(with_reducible refine And.intro (iW ?ho) ?_;(case ho=>kernel_rfl))|(with_reducible first|refine pe ?_|refine lT ?_));(repeat ((conv=>whnf);(first|(with_reducible first|refine va ?_|refine ai ‹_› ?_|refine aj ‹_› ?_)|((with_reducible refine ai ?_ ?_);focus decide)|((with_reducible refine aj ?_ ?_);focus decide)|(with_reducible refine And.intro (iW ?ho) ?_;(case ho=>kernel_rfl))|(with_reducible first|refine pe ?_|refine lT ?_))));exact hQ.out)|fail):p:=h ⟨k⟩
theorem sT {p q:Prop} (k:q) (h:Hold q→p:=by first|(intro hQ;refine And.intro ?_ ?_;(focus rfl);(conv=>whnf);(repeat (refine And.intro ?_ ?_;exact bA;(conv=>whnf)));(fail_if_success (with_reducible first|refine And.intro (bz ?_) ?_|refine And.intro (bD ?_) ?_));exact hQ.out)|fail):p:=h ⟨k⟩
theorem xS {A B r:Prop} (hq:Hold (A∧r)) (h:Hold r→B):A∧B:=⟨hq.out.1,h ⟨hq.out.2⟩⟩
theorem qcv {B:Base} {b:List Own} (hB:B.h=ofL b) (L I F:Prs) {sl sl' : List AV} {h h' : List Own} {q:Prop} (k:q)
 (H:Hold q→gM b h h' L I F=true∧fz (qOf L I F) h h' L (kJ L I F h sl sl' True):=by first|(intro hQ;refine And.intro ?_ ?_;(focus rfl);(conv=>whnf);(repeat ((first|(refine And.intro ?_ ?_;focus (exact andT))|(apply xS hQ;intro hQ));(conv=>whnf)));exact hQ.out)|fail):qConv B sl h sl' h' := qConv.of hB L I F (H ⟨k⟩).1 (H ⟨k⟩).2
theorem qcr {f:FuncId} {args:List AV} {res:AV} (H:ACallL P f args [.perm] res [.perm]) (imm bor:Prs) {aa:List AV} {h:List Own} {K:AV→List Nat→List Nat→List Own→Prop}
 (hq:fC [.perm] [.perm] h [] imm bor [] []=true∧avsE [] imm.swap bor.swap h aa args (av2E [] (outI [.perm] imm bor []) [] [.perm] res res (cg (imm.map (·.2) ++ bor.map (·.2)) fun rd=>frcL h fun h' => frcW res fun res' => K res' rd [] h'))):qCall P f aa h K:=qCall.reads H imm bor hq.1 hq.2
theorem qcf {f:FuncId} {args:List AV} (res:Nat→AV) (H:ACallL P f args [.perm] (res 1) [.perm,.uniq]) (imm bor:Prs) {aa:List AV} {h:List Own} {K:AV→List Nat→List Nat→List Own→Prop}
 (hq:fC [.perm] [.perm,.uniq] h [] imm bor [(1,h.length)] [(h.length,.uniq)]=true∧avsE [] imm.swap bor.swap h aa args (av2E (outL [.perm,.uniq] [] [(1,h.length)]) (outI [.perm,.uniq] imm bor [(1,h.length)]) [] [.perm,.uniq] (res 1) (res h.length)
  (cg (imm.map (·.2) ++ bor.map (·.2) ++ [h.length]) fun rd=>cg [h.length] fun wr=>eN (wr.map fun x=>(x,look [(h.length,.uniq)] x)) fun T=>frcL (apE h T) fun h' => frcW (res h.length) fun res' => K res' rd wr h'))):qCall P f aa h K:=qCall.fresh res H imm bor hq.1 hq.2
theorem qco {f:FuncId} {args:List AV} {L0 L1:List Own} {res:AV} (H:ACallL P f args L0 res L1) (own imm bor fr:Prs) (T:List (Nat × Own)) (res' : AV) {aa:List AV} {h:List Own} {K:AV→List Nat→List Nat→List Own→Prop}
 (hq:fC L0 L1 h own imm bor fr T=true∧avsE own.swap imm.swap bor.swap h aa args (fz (qOf own.swap imm.swap bor.swap) h L0 own.swap (aftE (qOf (outL L1 own fr) (outI L1 imm bor fr) []) L1 T own (aftE (qOf (outL L1 own fr) (outI L1 imm bor fr) []) L1 T fr
  (av2E (outL L1 own fr) (outI L1 imm bor fr) [] L1 res res' (cg (own.map (·.2) ++ imm.map (·.2) ++ bor.map (·.2) ++ fr.map (·.2)) fun rd=>cg (own.map (·.2) ++ (dD L1 imm).map (·.2) ++ fr.map (·.2)) fun wr=>eN (wr.map fun x=>(x,look T x)) fun T=>frcL (apE h T) fun h' => frcW res' fun res' => K res' rd wr h')))))):qCall P f aa h K:=qCall.of H own imm bor fr T res' hq.1 hq.2
theorem qcp {f:FuncId} {args:List AV} {res:AV} (H:ACallL P f args [.perm] res [.perm]) {h:List Own} {K:AV→List Nat→List Nat→List Own→Prop} (hq:eM (gS (ofL h 0) .perm) True∧(∀ c∈args,Pl c)∧Pl res∧frcW res fun res=>K res [0] [] h):qCall P f args h K:=qCall.pure H hq.1 hq.2.1 hq.2.2.1 hq.2.2.2
theorem pT {p q:Prop} (k:q) (h:Hold q→p:=by first|(intro hQ;refine And.intro ?_ (And.intro ?_ (And.intro ?_ hQ.out));exact trivial;exact plT;exact plT)|fail):p:=h ⟨k⟩
end
section
variable {P:Program}
end
theorem Rel.fix {m:Nm} {h:Hp} {w w' : World} (rel:Rel m h w) {b id:Nat} {k:Blk} (hb:h b = .live k) (hu:h id = .unused) (cur:Array Value) (f:Nat × Nat)
 (hh:w'.heap[(m.pl b).1]?=some (.cells cur k.elem f)) (hsz:w'.heap.size=w.heap.size)
 (far : ∀ g,g≠(m.pl b).1→w'.heap[g]?=w.heap[g]?) (o1:w'.os=w.os) (o2:w'.tape=w.tape) (o3:w'.output=w.output) :
 Rel (m.of id fun g=>g=(m.pl b).1) ((h.upd b .dead).upd id .perm) w' ∧ Ev m h w (m.of id fun g=>g=(m.pl b).1) ((h.upd b .dead).upd id .perm) w' := by
 have hbi:b≠id:=by rintro rfl;rw [hb] at hu;cases hu
 have hup : ∀ x,x≠b→x≠id→((h.upd b .dead).upd id .perm) x=h x:=fun x hx hy=>by rw [Hp.upd_ne _ _ hy,Hp.upd_ne _ _ hx]
 have hupb:((h.upd b .dead).upd id .perm) b = .dead:=by rw [Hp.upd_ne _ _ hbi,Hp.upd_same]
 have hupi:((h.upd b .dead).upd id .perm) id = .perm:=Hp.upd_same _ _ _
 have farO : ∀ x kx,h x = .live kx→x≠b→w'.heap[(m.pl x).1]?=w.heap[(m.pl x).1]?:=fun x kx hx hne=>far _ fun e=>hne (rel.sep x b kx k hx hb e)
 have liveE : ∀ x k1,((h.upd b .dead).upd id .perm) x = .live k1→h x = .live k1∧x≠b∧x≠id:=fun x k1 h1=>by
  have hx:x≠b:=by rintro rfl;rw [hupb] at h1;cases h1
  have hy:x≠id:=by rintro rfl;rw [hupi] at h1;cases h1
  exact ⟨by rw [← hup x hx hy];exact h1,hx,hy⟩
 have ev:Ev m h w (m.of id fun g=>g=(m.pl b).1) ((h.upd b .dead).upd id .perm) w' := by
  refine ⟨fun x hx=>rfl,fun x hx=>Nm.of_ne m _ (by rintro rfl;exact hx hu),fun x=>?_,by omega,?_,fun g hg ho _=>far g (fun e=>ho b k hb e.symm),?_,?_,o1,o2,o3⟩
  ·by_cases hx:x=b
   ·subst hx;rw [hb,hupb];trivial
   ·by_cases hy:x=id
    ·subst hy;rw [hu];trivial
    ·rw [hup x hx hy];exact Own.goes_refl _
  ·intro x k1 k2 h1 h2 c e f hcc
   obtain ⟨h3,h4,h5⟩:=liveE x k2 h2
   exact ⟨c,e,f,by rw [← farO x k1 h1 h4];exact hcc,rfl⟩
  ·intro x k1 h1 h2
   obtain ⟨h3,_,_⟩:=liveE x k1 h2
   rw [h1] at h3;cases h3
  ·intro r g h1 h2 hss
   by_cases hx:r=b
   ·subst hx;rw [hb] at h1;cases h1
   ·by_cases hy:r=id
    ·subst hy;rw [hupi] at h2;cases h2
    ·rw [hup r hx hy,h1] at h2;cases h2
 have immE : ∀ r,r≠id→(((h.upd b .dead).upd id .perm) r).imm→(h r).imm∧r≠b:=fun r h2 hr=>by
  have h1:r≠b:=by rintro rfl;rw [hupb] at hr;exact hr
  exact ⟨by rw [← hup r h1 h2];exact hr,h1⟩
 have uniqE : ∀ r,((h.upd b .dead).upd id .perm) r = .uniq→h r = .uniq∧r≠id:=fun r hr=>by
  have h2:r≠id:=by rintro rfl;rw [hupi] at hr;cases hr
  have h1:r≠b:=by rintro rfl;rw [hupb] at hr;cases hr
  exact ⟨by rw [← hup r h1 h2];exact hr,h2⟩
 have hlt:(m.pl b).1 < w.heap.size:=by
  obtain ⟨c,hc,_⟩:=rel.own b k hb
  exact (Array.getElem?_eq_some_iff.1 hc).1
 refine ⟨⟨?_,?_,?_,?_,?_,?_⟩,ev⟩
 ·intro x k1 h1
  obtain ⟨h2,h3,h4⟩:=liveE x k1 h1
  obtain ⟨c0,g2,g3,g4,g5⟩:=rel.own x k1 h2
  exact ⟨c0,by show w'.heap[(m.pl x).1]?=_;rw [farO x k1 h2 h3];exact g2,g3,g4,fun i j row c a b=>let ⟨v,p,q⟩:=g5 i j row c a b;⟨v,p,q.mono rel ev⟩⟩
 ·intro x y k1 k2 h1 h2 e
  exact rel.sep x y k1 k2 (liveE x k1 h1).1 (liveE y k2 h2).1 e
 ·intro x k1 r h1 hr hss
  obtain ⟨h2,h3,h4⟩:=liveE x k1 h1
  by_cases hy:r=id
  ·subst hy
   rw [Nm.of_same] at hss
   exact h3 (rel.sep x b k1 k h2 hb hss)
  ·rw [Nm.of_ne m _ hy] at hss
   exact rel.sepR x k1 r h2 (immE r hy hr).1 hss
 ·intro r r' g hr hr' hne hss
  obtain ⟨h1,h2⟩:=uniqE r hr
  rw [Nm.of_ne m _ h2] at hss
  by_cases hy:r' = id
  ·subst hy
   rw [Nm.of_same]
   rintro rfl
   exact rel.sepR b k r hb (by rw [h1];trivial) hss
  ·rw [Nm.of_ne m _ hy]
   exact rel.sepU r r' g h1 (immE r' hy hr').1 hne hss
 ·intro r g hr hss
  by_cases hy:r=id
  ·subst hy
   rw [Nm.of_same] at hss
   rw [hss];omega
  ·rw [Nm.of_ne m _ hy] at hss
   have:=rel.bound r g (immE r hy hr).1 hss
   omega
 ·intro r g hr hss
  obtain ⟨h1,h2⟩:=uniqE r hr
  rw [Nm.of_ne m _ h2] at hss
  obtain ⟨c,e,hc⟩:=rel.free r g h1 hss
  refine ⟨c,e,?_⟩
  rw [far g (fun e2=>rel.sepR b k r hb (by rw [h1];trivial) (e2 ▸ hss))]
  exact hc
section
variable {P:Program}
theorem oP (w:World) (g n:Nat) (c:Array Value) (e:TypeId) (f:Nat × Nat) (hg:w.heap[g]?=some (.cells c e f)) :
 (∃ f', (w.freeze ⟨g,n,none⟩ 1).heap[g]?=some (.cells c e f'))∧(∀ g', g' ≠ g→(w.freeze ⟨g,n,none⟩ 1).heap[g']?=w.heap[g']?)∧(w.freeze ⟨g,n,none⟩ 1).heap.size=w.heap.size:=by
 unfold World.freeze
 rw [if_neg (by decide)]
 refine ⟨?_,fun g' hne=>?_,by simp⟩
 ·simp only [Array.getElem?_modify,if_true,hg,Option.map_some]
  exact ⟨_,rfl⟩
 ·simp only [Array.getElem?_modify]
  rw [if_neg (fun e=>hne e.symm)]
theorem afrz {o:Oper} {s:List AV} {t e:TypeId} {x:Operand} {b i n id:Nat} {k:Blk} (ho:o.op = .convert t t x) (ht:bw P t=some e) (he:intT P e=some .u8) (hx:ae s x = .sl b i n) :
 OpL P o s ⟨.list id k.sz ((k.rows.drop i).take n),[(b,.live k),(id,.unused)],[(b,.dead),(id,.perm)]⟩:=by
 intro h hrd m w a rel hops
 have hb:h b = .live k:=hrd (b,_) (by simp)
 have hu:h id = .unused:=hrd (id,_) (by simp)
 have hR:=hops x (by simp [ho,Op.operands])
 rw [hx] at hR
 obtain ⟨off,cap,e1,h1,h2,h3,h4,h5⟩:=R.sl_inv rel hb hR
 obtain ⟨cur,c1,c2,c3,c4⟩:=rel.own b k hb
 obtain ⟨⟨f', g1⟩,g2,g3⟩:=oP w (m.pl b).1 cur.size cur k.elem (0,0) c1
 have hos:(w.freeze ⟨(m.pl b).1,cur.size,none⟩ 1).os=w.os∧(w.freeze ⟨(m.pl b).1,cur.size,none⟩ 1).tape=w.tape∧(w.freeze ⟨(m.pl b).1,cur.size,none⟩ 1).output=w.output:=by
  unfold World.freeze;rw [if_neg (by decide)];exact ⟨rfl,rfl,rfl⟩
 obtain ⟨rel', ev⟩:=rel.fix hb hu cur f' g1 g3 g2 hos.1 hos.2.1 hos.2.2
 have ht' := di ht
 have he' : P.underlying e=some (.int .u8):=by
  unfold intT at he
  simp only [Option.bind_eq_some_iff] at he
  obtain ⟨d,h1,h2⟩:=he
  rw [h1]
  cases d<;>simp at h2<;>simp [h2]
 have hsh:w.shape? (m.pl b).1=some (k.elem,cur.size):=by unfold World.shape?;rw [c1]
 refine ⟨_,.slice (some ⟨(m.pl b).1,off,none⟩) n cap,_,w.freeze ⟨(m.pl b).1,cur.size,none⟩ 1,?_,.inl rfl,rel', ev,?_⟩
 ·simp [execOp,ho,e1,convert,run_underlying ht', run_underlying he', markStringish,hsh]
 ·have hi:((h.upd b .dead).upd id .perm) id = .perm:=Hp.upd_same _ _ _
  have hlen:((k.rows.drop i).take n).length=n:=by simp;omega
  show R (m.of id fun g=>g=(m.pl b).1) ((h.upd b .dead).upd id .perm) _ (.list id k.sz ((k.rows.drop i).take n)) _
  by_cases hn:n=0
  ·subst hn
   rw [List.take_zero]
   exact .emp _ _ _ _ (by rw [hi];trivial) h3
  ·have hrow : ∀ (i' : Nat) (row:List AV),((k.rows.drop i).take n)[i']?=some row→k.rows[i + i']?=some row:=fun i' row hr=>by
    rw [List.getElem?_take] at hr
    split at hr
    ·rw [List.getElem?_drop] at hr;exact hr
    ·cases hr
   have:=R.list (m:=m.of id fun g=>g=(m.pl b).1) (h:=(h.upd b .dead).upd id .perm) (w:=w.freeze ⟨(m.pl b).1,cur.size,none⟩ 1) id k.sz ((k.rows.drop i).take n) (by rw [hi];trivial) (m.pl b).1 off cap (by rw [Nm.of_same]) (by rw [hlen];exact h2) h3
    (fun row hr=>c3 row (List.mem_of_mem_drop (List.mem_of_mem_take hr)))
    (fun i' j=>(cur[(m.pl b).2 + (i + i') * k.sz + j]?).getD undef)
    (fun i' j row c hr hc=>by
     obtain ⟨v,hv,_⟩:=c4 (i + i') j row c (hrow i' row hr) hc
     have e2:off + i' * k.sz + j=(m.pl b).2 + (i + i') * k.sz + j:=by rw [h4 (by omega),Nat.add_mul];omega
     simp [World.cell?,g1,e2,hv])
    (fun i' j row c hr hc=>by
     obtain ⟨v,hv,hRv⟩:=c4 (i + i') j row c (hrow i' row hr) hc
     rw [hv]
     exact hRv.mono rel ev)
   rw [hlen] at this
   exact this
theorem qOpen.frz {o:Oper} {sl:List AV} {h:List Own} {t e:TypeId} {x:Operand} {b i n:Nat} {k:Blk} {K:AV→List Nat→List Nat→List Own→Prop} (ho:o.op = .convert t t x) (ht:bw P t=some e) (he:intT P e=some .u8) (hx:ae sl x = .sl b i n) (hb:ofL h b = .live k)
 (hq:frcW (.list h.length k.sz ((k.rows.drop i).take n)) fun av=>frcL (apE h [(b,.dead),(h.length,.perm)]) fun h' => K av [b,h.length] [b,h.length] h'):qOpen P o sl h K :=
 qOpen.of (afrz (id:=h.length) ho ht he hx) ⟨fun q hq=>by
  simp only [List.mem_cons,List.not_mem_nil,or_false] at hq
  rcases hq with rfl|rfl
  ·exact hb
  ·exact eG h,Nat.le_of_lt (fM hb),by have:=fM hb;unfold setO;(try split)<;>simp<;>omega,trivial⟩ (by simp only [ca,dI] at hq ⊢; exact hq)
end
theorem ldR' {P:Program} {o:Oper} {sl:List AV} {h:List Own} {t:TypeId} {x:Operand} {b i i' j sz:Nat} {bk:Blk} {row:List AV} {ag:Bool} {av:AV} (ho:o.op = .load t x) (hx:ae sl x = .ptr b i j) (ha:dH P t=some ag) (hs:aY P t=some sz) (hb:ofL h b = .live bk) (hi:i=i') (hrow:bk.rows[i']?=some row)
 (hv:(if ag then (if j + sz≤row.length then some (AV.agg ((row.drop j).take sz)) else none) else row[j]?)=some av):aop P o sl h=some ⟨av,[(b,.live bk)],[]⟩:=ldR ho hx ha hs hb (hi ▸ hrow) hv
theorem qAW.loopE {P:Program} (hm:P.follows .mixedOrders=true) {B:Base} {X:Type} {body:Code} {Q:AExit→List AV→List Own→Prop} {sl:List AV} {h:List Own} (F:X→List AV) (G:X→List Own) (I:X→Prop) (μ:X→Nat) (x0:X) (hI:I x0) (h0:qConv B sl h (F x0) (G x0))
 (round : ∀ (E:List AV→List Own→Prop), ∀ x,I x→E=ev P B body (fun e sl h=>match e with | .normal => ∃ y,I y∧μ y < μ x∧qConv B sl h (F y) (G y)|e=>Q e sl h)→ch (F x) fun sl=>cw (G x) fun h=>E sl h):qAW P B (.loop body) Q sl h :=
 qAW.loop hm F G I μ x0 hI h0 fun x hx=>round _ x hx rfl
theorem stR' {P:Program} {o:Oper} {sl:List AV} {h:List Own} {t:TypeId} {x y:Operand} {b i i' j sz:Nat} {bk:Blk} {row:List AV} (ho:o.op = .store t x y) (hx:ae sl x = .ptr b i j) (hs:aY P t=some sz) (hb:ofL h b = .live bk) (hi:i=i') (hrow:bk.rows[i']?=some row)
 (hc:(ae sl y).cells.length=sz) (h1:(ae sl y).cells.all AV.one=true) (hj:j + sz≤row.length) :
 aop P o sl h=some ⟨.val undef,[(b,.live bk)],[(b,.live { bk with rows:=bk.rows.set i' (row.take j ++ (ae sl y).cells ++ row.drop (j + sz)) })]⟩:=hi ▸ stR ho hx hs hb (hi ▸ hrow) hc h1 hj
theorem apS1 {P:Program} {o:Oper} {sl:List AV} {h:List Own} {t e:TypeId} {x y:Operand} {rd:List (Nat × Own)} {b n sz nb:Nat} {bk:Blk} {row:List AV} {Y:AV} {z:List Value} (ho:o.op = .call { callee := .builtin .append,args := #[x,y],argTypes := #[t,t] }) (hx:ae sl x = .sl b 0 n) (hy:ae sl y=Y)
 (hl:alive (ofL h) Y=some rd) (hbk:ofL h b = .live bk) (hrows:arows (ofL h) Y=some (sz,[row])) (he:bw P t=some e) (hs:aY P e=some sz) (hb:en P e=some nb) (hz:dA P e=some z) (h0:0 < sz∧0 < nb∧z.length=sz)
 (hone:row.all AV.one=true) (h1:bk.sz=sz∧bk.elem=e∧n=bk.rows.length) (h2:bk.rows.all (fun r=>r.all AV.one)=true) (hsz:(n + 1) * nb≤140737488355328) :
 aop P o sl h=some ⟨.sl h.length 0 (n + 1),(b,.live bk)::(h.length,.unused)::rd,[(b,.dead),(h.length,.live ⟨sz,e,bk.rows ++ [row]⟩)]⟩:=by
 have:=apS ho hx hy hl hbk hrows he hs hb hz h0 (by simpa using hone) ⟨h1.1,h1.2.1,by rw [Nat.zero_add];exact h1.2.2⟩ h2 (by simpa using hsz)
 simpa using this
theorem slS' {P:Program} {o:Oper} {sl:List AV} {h:List Own} {t e:TypeId} {x:Operand} {rd:List (Nat × Own)} {b i n i' n' sz:Nat} {bk:Blk} {lo hi mx:Option Operand} {l hh mm:Option Int} (ho:o.op = .slice t x lo hi mx) (hx:ae sl x = .sl b i n) (hlo:abnd sl lo=some l) (hhi:abnd sl hi=some hh) (hmx:abnd sl mx=some mm) (he:bw P t=some e) (hs:aY P e=some sz)
 (hb:ofL h b = .live bk) (hz:bk.sz=sz) (hl:alive (ofL h) (.sl b i n)=some rd) (hc:0≤l.getD 0∧l.getD 0≤hh.getD n∧hh.getD n≤mm.getD n∧mm.getD n≤n∧(mm=none∨hh≠none)) (h1:i + (l.getD 0).toNat=i') (h2:(hh.getD n - l.getD 0).toNat=n') :
 aop P o sl h=some ⟨.sl b i' n', rd,[]⟩:=by
 subst h1 h2;exact slS ho hx hlo hhi hmx he hs hb hz hl hc
theorem slL' {P:Program} {o:Oper} {sl:List AV} {h:List Own} {t e:TypeId} {x:Operand} {rd:List (Nat × Own)} {r sz:Nat} {rows rows' : List (List AV)} {lo hi mx:Option Operand} {l hh mm:Option Int} (ho:o.op = .slice t x lo hi mx) (hx:ae sl x = .list r sz rows) (hlo:abnd sl lo=some l) (hhi:abnd sl hi=some hh) (hmx:abnd sl mx=some mm) (he:bw P t=some e) (hs:aY P e=some sz) (hl:alive (ofL h) (.list r sz rows)=some rd)
 (hc:0≤l.getD 0∧l.getD 0≤hh.getD rows.length∧hh.getD rows.length≤mm.getD rows.length∧mm.getD rows.length≤rows.length∧(mm=none∨hh≠none)) (hr:(rows.drop (l.getD 0).toNat).take (hh.getD rows.length - l.getD 0).toNat=rows'):aop P o sl h=some ⟨.list r sz rows', rd,[]⟩:=hr ▸ slL ho hx hlo hhi hmx he hs hl hc
theorem apG' {P:Program} {o:Oper} {sl:List AV} {h:List Own} {t e:TypeId} {x y:Operand} {rd:List (Nat × Own)} {r sz nb:Nat} {rows new rows' : List (List AV)} {Y:AV} {z:List Value} (ho:o.op = .call { callee := .builtin .append,args := #[x,y],argTypes := #[t,t] }) (hx:ae sl x = .glist r sz rows) (hy:ae sl y=Y)
 (hl:alive (ofL h) Y=some rd) (hr:ofL h r = .uniq) (hrows:arows (ofL h) Y=some (sz,new)) (he:bw P t=some e) (hs:aY P e=some sz) (hb:en P e=some nb) (hz:dA P e=some z) (h0:0 < sz∧0 < nb∧z.length=sz)
 (hone:new.all (fun r=>r.all AV.one)=true) (hsz:(rows.length + new.length) * nb≤140737488355328) (hrr:rows ++ new=rows') :
 aop P o sl h=some ⟨.glist h.length sz rows', (r,.uniq)::(h.length,.unused)::rd,[(r,.dead),(h.length,.uniq)]⟩:=hrr ▸ apG ho hx hy hl hr hrows he hs hb hz h0 hone hsz
end Go.Proofs.YtceohcbokbalhaaGreat
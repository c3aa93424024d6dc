/- Code on data beside a map of the call's own, whose elements are bools: what the map reads as goes along with the state. No condition. -/
import Derived.Test.YtceohcbokbalhaaGreatPkAH
import Derived.Maps.Own
import Derived.Maps.Views
namespace Go.Proofs.YtceohcbokbalhaaGreat
open Go.RowKit
open Go.Maps (Keyed)
set_option linter.unusedVariables false
set_option linter.unusedSimpArgs false
theorem iZ {H:Type} {P:Program} {e:TypeId} (he:P.underlying e=some .bool) {v:Value} {z:DataW H × List MemPlace} (h:plainElem P e v=some z) : ∃ x,v = .bool x∧z=(.lit (.bool x),[]):=by
 unfold plainElem at h
 rw [he] at h
 cases v<;>simp at h
 subst h
 exact ⟨_,rfl,rfl⟩
theorem uZ {H:Type} {P:Program} {k t e:TypeId} {w:World} {b n:Nat} {D:DataW H} (h:w.ownsMap P k (plainElem P e) b n D) (K:Keyed P k) (ht:P.underlying t=some (.map k e)) (he:P.underlying e=some .bool) (hz:(zeroValue e).run P w = .ok (.bool false) w)
 {key:Value} {kl:Lit} (hkey:keyOf P k key=some kl) : ∃ c,(Instr.lookup t (.map (some b)) key false).run P w = .ok (.bool c) w∧D.atKey kl (.lit (.bool false)) = .lit (.bool c):=by
 obtain ⟨v,ps,hrun,hv⟩:=h.lookup K ht hz (plainElem_bool he false) hkey
 obtain ⟨c,rfl,hc⟩:=iZ he hv
 simp only [Prod.mk.injEq] at hc
 exact ⟨c,hrun,hc.1⟩
section
variable {w w' : World}
theorem qt {g o:Nat} {v:Value} (h:w.cell? ⟨g,o,none⟩=some v) : ∃ cur e f,w.heap[g]?=some (.cells cur e f):=by
 unfold World.cell? at h
 cases hh:w.heap[g]? with
 | none=>simp [hh] at h
 | some ob =>
   cases ob with
   | cells cur e f=>exact ⟨cur,e,f,rfl⟩
   | _=>simp [hh] at h
theorem R.turn {m:Nm} {h:Hp} (rel:Rel m h w) (h1 : ∀ (g:Nat) (cur:Array Value) (e:TypeId) (f:Nat × Nat),w.heap[g]?=some (.cells cur e f)→w'.heap[g]?=w.heap[g]?) (h2 : ∀ (g:Nat),g < w.heap.size → ∀ (cur:Array Value) (e:TypeId) (f:Nat × Nat),w'.heap[g]?=some (.cells cur e f)→w.heap[g]?=some (.cells cur e f)) {av:AV} {v:Value} (hR:R m h w av v):R m h w' av v:=by
 have hc : ∀ {g o:Nat} {v:Value}, w.cell? ⟨g,o,none⟩=some v→w'.cell? ⟨g,o,none⟩=some v:=fun {g o v} hh=>by
  obtain ⟨cur,e,f,e1⟩:=qt hh
  rw [da (h1 g cur e f e1)];exact hh
 induction hR with
 | any v=>exact .any v
 | val v=>exact .val v
 | agg cs vs hl hc ih=>exact .agg cs vs hl ih
 | tup cs vs hl hc ih=>exact .tup cs vs hl ih
 | ptr b i j k hb=>exact .ptr b i j k hb
 | ptrD b i j v hb h1=>exact .ptrD b i j v hb h1
 | sl b i n k hb off cap hn hc hm ho hz =>
   refine .sl b i n k hb off cap hn hc hm ho fun cur e f hcur=>hz cur e f (h2 _ ?_ cur e f hcur)
   obtain ⟨c0,e0,_⟩:=rel.own b k hb
   exact (Array.getElem?_eq_some_iff.1 e0).1
 | slD b i n v hb h1=>exact .slD b i n v hb h1
 | nil r sz=>exact .nil r sz
 | emp r sz cap a hr hm=>exact .emp r sz cap a hr hm
 | gnil r sz=>exact .gnil r sz
 | gemp r sz a hr=>exact .gemp r sz a hr
 | glist r sz rows hr g off cap hg hc0 hm hw hz f hf hRR ih=>exact .glist r sz rows hr g off cap hg hc0 hm hw (fun c0 cur e2 f2 hc2=>hz c0 cur e2 f2 (h2 g (rel.bound r g hr hg) _ _ _ hc2)) f (fun i j row c a b=>hc (hf i j row c a b)) ih
 | glistD r sz rows v hr h1=>exact .glistD r sz rows v hr h1
 | list r sz rows hr g off cap hg hc0 hm hw f hf hRR ih=>exact .list r sz rows hr g off cap hg hc0 hm hw f (fun i j row c a b=>hc (hf i j row c a b)) ih
 | listD r sz rows v hr h1=>exact .listD r sz rows v hr h1
 | lptr r row j hr g off hg f hf hRR ih=>exact .lptr r row j hr g off hg f (fun j c a=>hc (hf j c a)) ih
 | lptrD r row j v hr h1=>exact .lptrD r row j v hr h1
 | clo f caps vs hl hc ih=>exact .clo f caps vs hl ih
theorem Rel.turn {m:Nm} {h:Hp} (rel:Rel m h w) (hs:w.heap.size≤w'.heap.size) (h1 : ∀ (g:Nat) (cur:Array Value) (e:TypeId) (f:Nat × Nat),w.heap[g]?=some (.cells cur e f)→w'.heap[g]?=w.heap[g]?) (h2 : ∀ (g:Nat),g < w.heap.size → ∀ (cur:Array Value) (e:TypeId) (f:Nat × Nat),w'.heap[g]?=some (.cells cur e f)→w.heap[g]?=some (.cells cur e f)):Rel m h w' := by
 refine ⟨fun id k hk=>?_,rel.sep,rel.sepR,rel.sepU,fun r g hr hg=>Nat.lt_of_lt_of_le (rel.bound r g hr hg) hs,fun r g hr hg=>?_⟩
 ·obtain ⟨cur,a,b,c,d⟩:=rel.own id k hk
  exact ⟨cur,by rw [h1 _ _ _ _ a];exact a,b,c,fun i j row c e1 e2=>let ⟨v,p,q⟩:=d i j row c e1 e2;⟨v,p,q.turn rel h1 h2⟩⟩
 ·obtain ⟨cur,e,a⟩:=rel.free r g hr hg
  exact ⟨cur,e,by rw [h1 _ _ _ _ a];exact a⟩
theorem StR.turn {m:Nm} {sl:List AV} {h:Hp} {a:Go.Act} (st:StR m sl h a w) (hs:w.heap.size≤w'.heap.size) (h1 : ∀ (g:Nat) (cur:Array Value) (e:TypeId) (f:Nat × Nat),w.heap[g]?=some (.cells cur e f)→w'.heap[g]?=w.heap[g]?) (h2 : ∀ (g:Nat),g < w.heap.size → ∀ (cur:Array Value) (e:TypeId) (f:Nat × Nat),w'.heap[g]?=some (.cells cur e f)→w.heap[g]?=some (.cells cur e f)):StR m sl h a w' :=
 ⟨st.rel.turn hs h1 h2,fun t=>(st.slots t).turn st.rel h1 h2,st.len,st.defers⟩
theorem StR.putV {m:Nm} {sl:List AV} {h:Hp} {a:Go.Act} (st:StR m sl h a w) {d:Option Tmp} {av:AV} {v:Value} (hv:R m h w av v):StR m (aput sl d av) h (a.put d v) w:=by
 have sp:=SlotsR.put st.rel (Ev.refl m h w) st.slots st.len (d:=d) hv
 exact ⟨st.rel,sp.1,sp.2,by rw [dz];exact st.defers⟩
theorem Base.evTurn {B:Base} {m:Nm} {h:Hp} (ev:B.ev m h w) (o1:w'.os=w.os) (o2:w'.tape=w.tape) (o3:w'.output=w.output) (hs:w.heap.size≤w'.heap.size) (h2 : ∀ (g:Nat),g < w.heap.size → ∀ (cur:Array Value) (e:TypeId) (f:Nat × Nat),w'.heap[g]?=some (.cells cur e f)→w.heap[g]?=some (.cells cur e f))
 (h3 : ∀ g,g < B.w.heap.size→w'.heap[g]?=w.heap[g]?):B.ev m h w' := by
 refine ⟨ev.pl,ev.set,ev.kind,Nat.le_trans ev.size hs,fun id k k' a b cur e f hc=>ev.cells id k k' a b cur e f ?_,fun g hg a b=>(h3 g hg).trans (ev.frame g hg a b),ev.new,ev.newU,o1.trans ev.os,o2.trans ev.tape,o3.trans ev.output⟩
 obtain ⟨c0,e0,_⟩:=B.rel.own id k a
 rw [h3 _ (Array.getElem?_eq_some_iff.1 e0).1] at hc
 exact hc
end
theorem Plan.lexTo {P:Program} {all:List Oper} {Q:Exit→Go.Act→World→Prop} {sl' : List AV} {h' : Hp} {m0:Nm} {h0:Hp} {w0:World} (rel0:Rel m0 h0 w0) (post:List Oper) :
 ∀ (rest:List Oper) (k:Nat) (sl:List AV) (h:Hp) (ps:List PStep),rest ++ post=all.drop k→Plan P all rest sl h ps sl' h' → ∀ (m:Nm) (a:Go.Act) (w:World),StR m sl h a w→Ev m0 h0 w0 m h w →
  (∀ m' a' w', StR m' sl' h' a' w' → Ev m0 h0 w0 m' h' w' → wpOps P all.toArray Q (List.range' (k + rest.length) (all.length - (k + rest.length))) a' w')→wpOps P all.toArray Q ((List.range' k (all.length - k))) a w:=by
 intro rest
 induction rest with
 | nil =>
   intro k sl h ps hk hp m a w st ev hQ
   cases hp
   exact hQ m a w st ev
 | cons o rest ih =>
   intro k sl h ps hk hp m a w st ev hQ
   have hlt:k < all.length:=by
    have:=congrArg List.length hk
    simp at this;omega
   have ho:all[k]?=some o:=by
    have:=congrArg (fun l=>l[0]?) hk
    simpa using this.symm
   have hrest:rest ++ post=all.drop (k + 1):=by
    have:=congrArg List.tail hk
    simpa using this
   have hr:List.range' k (all.length - k)=k::List.range' (k + 1) (all.length - (k + 1)):=by
    rw [show all.length - k=(all.length - (k + 1)) + 1 by omega,List.range'_succ]
   rw [hr]
   simp only [wpOps,List.getElem?_toArray,ho]
   have hlen : ∀ (rest:List Oper),k + (o::rest).length=k + 1 + rest.length:=fun rest=>by simp;omega
   rw [hlen rest] at hQ
   cases hp with
   | cons _ _ _ _ p ps _ _ hw hok hpr =>
     rw [dE (m:=m) (h:=h) (w:=w) hw (fun t _=>st.slots t)]
     cases hpw:p.w with
     | true =>
       rw [if_pos rfl]
       left
       obtain ⟨hop,hrd⟩:=hok hpw
       refine hop h m w a _ Q hrd st.rel (fun x _=>st.slots.eval x) fun v m' w' r1 e1 R1=>?_
       have sp:=SlotsR.put st.rel e1 st.slots st.len (d:=o.dst) R1
       rw [hpw] at hpr
       simp only [PStep.val,hpw,if_true] at hpr
       exact ih (k + 1) _ _ ps hrest hpr m' _ w' ⟨r1,sp.1,sp.2,by rw [dz];exact st.defers⟩ (ev.trans rel0 e1) hQ
     | false =>
       rw [if_neg (by simp)]
       have sp:=SlotsR.put st.rel (Ev.refl m h w) st.slots st.len (d:=o.dst) (R.val (m:=m) (h:=h) (w:=w) undef)
       rw [hpw] at hpr
       simp only [PStep.val,hpw,Bool.false_eq_true,if_false] at hpr
       exact ih (k + 1) _ _ ps hrest hpr m _ w ⟨st.rel,sp.1,sp.2,by rw [dz];exact st.defers⟩ ev hQ
abbrev MapS:=Nat × Nat × DataW Unit
def GhM (P:Program) (k e:TypeId) (B:Base):Option MapS→World→Prop
 | none,_=>True
 | some (b,n,D),w=>B.w.heap.size≤b∧w.ownsMap P k (plainElem P e) b n D
abbrev GQ:=AExit→List AV→List Own→Option MapS→Prop
def AG (P:Program) (k e:TypeId) (B:Base) (c:Code) (Q:GQ) (sl:List AV) (h:List Own) (mp:Option MapS):Prop :=
 ∀ (m:Nm) (w:World) (a:Go.Act),StR m sl (ofL h) a w→B.ev m (ofL h) w→GhM P k e B mp w →
  c.wp P (fun x a' w' => ∃ x' sl' h' mp' m', x=AExit.conc x' ∧ Q x' sl' h' mp' ∧ StR m' sl' (ofL h') a' w' ∧ B.ev m' (ofL h') w' ∧ GhM P k e B mp' w') a w
def cm (N:List AV→List Own→Option MapS→Prop) (Q:GQ):GQ
 | .normal,sl,h,mp=>N sl h mp
 | x,sl,h,mp=>Q x sl h mp
def AGs (P:Program) (k e:TypeId) (B:Base):List Code→GQ→List AV→List Own→Option MapS→Prop
 | [],Q,sl,h,mp=>Q .normal sl h mp
 | c::l,Q,sl,h,mp=>AG P k e B c (cm (AGs P k e B l Q) Q) sl h mp
def qAGs (P:Program) (k e:TypeId) (B:Base) (L:List Code) (Q:GQ) (sl:List AV) (h:List Own) (mp:Option MapS):Prop:=AGs P k e B L Q sl h mp
section
variable {P:Program} {k e:TypeId} {B:Base} {c:Code} {Q:GQ} {sl:List AV} {h:List Own} {mp:Option MapS}
theorem GhM.keep {m m' : Nm} {h h' : Hp} {w w' : World} (rel:Rel m h w) (ev:Ev m h w m' h' w') (hg:GhM P k e B mp w):GhM P k e B mp w' := by
 match mp,hg with
 | none,_=>trivial
 | some (b,n,D),⟨hb,es,clock,hh,F,hs,hD⟩ =>
   refine ⟨hb,es,clock,(ev.frame b (Array.getElem?_eq_some_iff.1 hh).1 (fun id k hk e=>?_) (fun r hr hg=>?_)).trans hh,F,hs,hD⟩
   ·obtain ⟨cur,h1,_⟩:=rel.own id k hk
    rw [e,hh] at h1;cases h1
   ·obtain ⟨cur,e,h1⟩:=rel.free r b hr hg
    rw [hh] at h1;cases h1
theorem AG.mono (H:AG P k e B c Q sl h mp) {Q' : GQ} (hq : ∀ x sl h mp,Q x sl h mp→Q' x sl h mp):AG P k e B c Q' sl h mp:=fun m w a hs hev hg =>
 wp_mono (H m w a hs hev hg) fun x a' w' ⟨x', sl', h', mp', m', h1,h2,h3⟩=>⟨x', sl', h', mp', m', h1,hq _ _ _ _ h2,h3⟩
theorem AG.lift (H : ∀ B' : Base,AW P B' c (fun x st=>Q x st.sl st.h mp) ⟨sl,h⟩):AG P k e B c Q sl h mp:=fun m w a hs hev hg =>
 wp_mono (H ⟨m,ofL h,w,hs.rel⟩ m w a hs (Ev.refl _ _ _)) fun x a' w' ⟨x', st', m', h1,h2,h3,h4⟩=>⟨x', st'.sl,st'.h,mp,m', h1,h2,h3,Ev.trans B.rel hev h4,GhM.keep hs.rel h4 hg⟩
theorem AG.conv {sl' : List AV} {h' : List Own} (hc:qConv B sl h sl' h') (H:AG P k e B c Q sl' h' mp):AG P k e B c Q sl h mp:=fun m w a hs hev hg=>by
 unfold qConv at hc
 obtain ⟨m', hs', ev'⟩:=hc m w a hs hev
 exact H m' w a hs' ev' hg
theorem AG.seqC {a b:Code} (H:AG P k e B a (cm (AG P k e B b Q) Q) sl h mp):AG P k e B (.seq a b) Q sl h mp:=fun m w ac hs hev hg=>by
 refine wp_seq (wp_mono (H m w ac hs hev hg) ?_)
 rintro x a' w' ⟨x', sl', h', mp', m', rfl,hq,hs', ev,hg'⟩
 cases x' with
 | normal=>exact hq m' w' a' hs' ev hg'
 | exit id=>exact ⟨.exit id,sl', h', mp', m', rfl,hq,hs', ev,hg'⟩
 | goto l=>exact ⟨.goto l,sl', h', mp', m', rfl,hq,hs', ev,hg'⟩
 | ret=>exact ⟨.ret,sl', h', mp', m', rfl,hq,hs', ev,hg'⟩
theorem AGs.app' : ∀ (l1 l2:List Code) {Q:GQ} {sl:List AV} {h:List Own} {mp:Option MapS}, AGs P k e B (l1 ++ l2) Q sl h mp→AGs P k e B l1 (cm (AGs P k e B l2 Q) Q) sl h mp
 | [],l2,Q,sl,h,mp,H=>H
 | c::l1,l2,Q,sl,h,mp,H=>AG.mono H fun x sl h mp H=>by
  cases x with
  | normal=>exact AGs.app' l1 l2 H
  | exit id=>exact H
  | goto l' => exact H
  | ret=>exact H
theorem AGs.one (H:AGs P k e B [c] Q sl h mp):AG P k e B c Q sl h mp:=AG.mono H fun x sl h mp H=>by
 cases x<;>exact H
theorem AGs.spine : ∀ (c:Code) {Q:GQ} {sl:List AV} {h:List Own} {mp:Option MapS}, AGs P k e B (spine c) Q sl h mp→AG P k e B c Q sl h mp
 | .seq a b,Q,sl,h,mp,H=>AG.seqC (AG.mono (AGs.spine a (AGs.app' _ _ H)) fun x sl h mp H=>by
  cases x with
  | normal=>exact AGs.spine b H
  | exit id=>exact H
  | goto l' => exact H
  | ret=>exact H)
 | .skip,Q,sl,h,mp,H=>H.one
 | .label _,Q,sl,h,mp,H=>H.one
 | .region .., Q,sl,h,mp,H=>H.one
 | .cond .., Q,sl,h,mp,H=>H.one
 | .block .., Q,sl,h,mp,H=>H.one
 | .loop _,Q,sl,h,mp,H=>H.one
 | .exit _,Q,sl,h,mp,H=>H.one
 | .scope _,Q,sl,h,mp,H=>H.one
 | .goto _,Q,sl,h,mp,H=>H.one
 | .ret,Q,sl,h,mp,H=>H.one
 | .rangeFunc .., Q,sl,h,mp,H=>H.one
 | .refuse _,Q,sl,h,mp,H=>H.one
theorem qAGs.go (hm:P.follows .mixedOrders=true) {L:List Code} (H : ∀ B' : Base,ch sl fun sl=>cw h fun h=>ev P B' c (fun x sl h=>match x with | .normal=>qAGs P k e B L Q sl h mp|x=>Q x sl h mp) sl h):qAGs P k e B (c::L) Q sl h mp:=by
 refine AG.lift fun B' => ?_
 have H' := H B'
 simp only [bH,bZ] at H'
 refine AW.mono (bC hm c _ ⟨sl,h⟩ (dh c _ _ _ H')) fun x st H=>?_
 cases x<;>exact H
theorem qAGs.conv {L:List Code} {sl' : List AV} {h' : List Own} (hc:qConv B sl h sl' h') (H:qAGs P k e B (c::L) Q sl' h' mp):qAGs P k e B (c::L) Q sl h mp:=AG.conv hc H
theorem qAGs.nil (H:Q .normal sl h mp):qAGs P k e B [] Q sl h mp:=H
theorem qAGs.of (H:AG P k e B c Q sl h mp) (hq : ∀ x sl h mp,Q x sl h mp→Q x sl h mp):AG P k e B c Q sl h mp:=H
theorem qAGs.ofSpine {L:List Code} (hL:spine c=L) (H:qAGs P k e B L Q sl h mp):AG P k e B c Q sl h mp:=AGs.spine c (by rw [hL];exact H)
def kM (P:Program) (k:TypeId) (av:AV) (kl:Lit):Prop := ∀ (m:Nm) (h:Hp) (w:World) (v:Value),R m h w av v→keyOf P k v=some kl
theorem lc {all pre post:List Oper} {o:Oper} (hops:all=pre ++ o::post):all[pre.length]?=some o∧List.range' (0 + pre.length) (all.length - (0 + pre.length))=pre.length::List.range' (pre.length + 1) (all.length - (pre.length + 1))∧post ++ []=all.drop (pre.length + 1)∧pre ++ (o::post)=all.drop 0:=by
 subst hops
 refine ⟨by simp,?_,?_,by simp⟩
 ·rw [Nat.zero_add,show (pre ++ o::post).length - pre.length=((pre ++ o::post).length - (pre.length + 1)) + 1 by simp;omega,List.range'_succ]
 ·rw [List.append_nil,List.drop_append];simp
theorem AG.look {id:Nat} {ops:Array Oper} {pre post:List Oper} {o:Oper} {t:TypeId} {tm tk:Nat} {b n:Nat} {D:DataW Unit} (hops:ops.toList=pre ++ o::post) (ho:o.op = .lookup t (.tmp tm) (.tmp tk) false)
 (KL:Keyed P k) (ht:P.underlying t=some (.map k e)) (he:P.underlying e=some .bool) (hz : ∀ w,(zeroValue e).run P w = .ok (.bool false) w)
 (H : ∀ B' : Base,ch sl fun sl=>cw h fun h=>de P ops.toList (fun _ sl h=>ae sl (.tmp tm) = .val (.map (some b)) ∧ ∃ kl,kM P k (ae sl (.tmp tk)) kl∧awanted ops.toList o sl=some true ∧
  ∀ c,D.atKey kl (.lit (.bool false)) = .lit (.bool c)→frcL (aput sl o.dst (.val (.bool c))) fun sl=>de P ops.toList (fun _ sl h=>Q .normal sl h (some (b,n,D))) post [] sl h) pre [] sl h) :
 AG P k e B (.region id ops false) Q sl h (some (b,n,D)):=by
 intro m w a hs hev hg
 have H' := H B
 simp only [bH,bZ] at H'
 obtain ⟨ps,st1,hp,hk⟩:=cz _ _ _ _ (dy _ _ _ _ H')
 obtain ⟨p1,p2,p3,p4⟩:=lc hops
 obtain ⟨hmap,kl,hkey,hw,hrest⟩:=hk
 refine wp_region ?_
 have key:wpOps P ops.toList.toArray (fun x a' w' => ∃ x' sl' h' mp' m', x=AExit.conc x' ∧ Q x' sl' h' mp' ∧ StR m' sl' (ofL h') a' w' ∧ B.ev m' (ofL h') w' ∧ GhM P k e B mp' w') (List.range' 0 (ops.toList.length - 0)) a w:=by
  refine Plan.lexTo hs.rel (o::post) pre 0 sl (ofL h) ps p4 hp m a w hs (Ev.refl _ _ _) fun m1 a1 w1 s1 e1=>?_
  obtain ⟨hb,hown⟩:=GhM.keep hs.rel e1 hg
  have hm1:a1.eval (.tmp tm) = .map (some b):=by
   have:=s1.slots.eval (.tmp tm)
   rw [hmap] at this
   exact this.val_inv
  have hk1:=hkey _ _ _ _ (s1.slots.eval (.tmp tk))
  obtain ⟨cc,hrun,hat⟩:=uZ hown KL ht he (hz _) hk1
  rw [p2]
  simp only [wpOps,List.getElem?_toArray,p1]
  rw [dE (m:=m1) (h:=ofL st1.h) (w:=w1) hw (fun t _=>s1.slots t),if_pos rfl]
  left
  unfold Oper.wp
  have hx:(execOp a1.eval o).run P w1 = .ok (.value (.bool cc)) w1:=by
   simp [execOp,ho,hm1,hrun]
  rw [hx,Oper.upon_value]
  have H2:=hrest cc hat
  rw [ca] at H2
  obtain ⟨ps2,st2,hp2,hk2⟩:=cz _ _ _ _ (dy _ _ _ _ H2)
  refine Plan.lexTo hs.rel [] post (pre.length + 1) _ _ ps2 p3 hp2 m1 _ w1 (s1.putV (.val _)) e1 fun m2 a2 w2 s2 e2=>?_
  have:ops.toList.length - (pre.length + 1 + post.length)=0:=by rw [hops];simp;omega
  rw [this]
  exact ⟨.normal,st2.sl,st2.h,_,m2,rfl,hk2,s2,Ev.trans B.rel hev e2,GhM.keep hs.rel e2 hg⟩
 simpa [List.range_eq_range'] using key
theorem AG.upd {id:Nat} {ops:Array Oper} {pre:List Oper} {o:Oper} {t:TypeId} {tm tk:Nat} {b n:Nat} {D:DataW Unit} (hops:ops.toList=pre ++ [o]) (ho:o.op = .mapUpdate t (.tmp tm) (.tmp tk) (.const (.bool true))) (hgd:o.guard=none)
 (KL:Keyed P k) (ht:P.underlying t=some (.map k e)) (he:P.underlying e=some .bool) (hn:n < maxLen)
 (H : ∀ B' : Base,ch sl fun sl=>cw h fun h=>de P ops.toList (fun _ sl h=>ae sl (.tmp tm) = .val (.map (some b)) ∧ ∃ kl,kM P k (ae sl (.tmp tk)) kl ∧
  frcL (aput sl o.dst (.val undef)) fun sl=>Q .normal sl h (some (b,n + 1,D.put kl (.lit (.bool true))))) pre [] sl h) :
 AG P k e B (.region id ops false) Q sl h (some (b,n,D)):=by
 intro m w a hs hev hg
 have H' := H B
 simp only [bH,bZ] at H'
 obtain ⟨ps,st1,hp,hk⟩:=cz _ _ _ _ (dy _ _ _ _ H')
 obtain ⟨p1,p2,p3,p4⟩:=lc (post:=[]) hops
 obtain ⟨hmap,kl,hkey,hrest⟩:=hk
 refine wp_region ?_
 have key:wpOps P ops.toList.toArray (fun x a' w' => ∃ x' sl' h' mp' m', x=AExit.conc x' ∧ Q x' sl' h' mp' ∧ StR m' sl' (ofL h') a' w' ∧ B.ev m' (ofL h') w' ∧ GhM P k e B mp' w') (List.range' 0 (ops.toList.length - 0)) a w:=by
  refine Plan.lexTo hs.rel [o] pre 0 sl (ofL h) ps p4 hp m a w hs (Ev.refl _ _ _) fun m1 a1 w1 s1 e1=>?_
  obtain ⟨hb,hown⟩:=GhM.keep hs.rel e1 hg
  have hm1:a1.eval (.tmp tm) = .map (some b):=by
   have:=s1.slots.eval (.tmp tm)
   rw [hmap] at this
   exact this.val_inv
  have hk1:=hkey _ _ _ _ (s1.slots.eval (.tmp tk))
  obtain ⟨w2,hrun,hown2,hgr⟩:=hown.update KL ht hn hk1 (plainElem_bool he true)
  rw [p2]
  simp only [wpOps,List.getElem?_toArray,p1]
  rw [dE (m:=m1) (h:=ofL st1.h) (w:=w1) (b:=true) (sl:=st1.sl) (by unfold awanted;rw [hgd]) (fun t _=>s1.slots t),if_pos rfl]
  left
  unfold Oper.wp
  have hx:(execOp a1.eval o).run P w1 = .ok .skip w2:=by
   have hc1:a1.eval (.const (.bool true)) = .bool true:=rfl
   simp [execOp,ho,hm1,hc1,hrun,Result.andThen]
  rw [hx,Oper.upon_skip]
  have:ops.toList.length - (pre.length + 1)=0:=by rw [hops];simp
  rw [this]
  rw [ca] at hrest
  obtain ⟨es,clock,hh,_⟩:=hown
  have hown3:=hown2
  obtain ⟨es2,clock2,hh2,_⟩:=hown3
  have hblt:=(Array.getElem?_eq_some_iff.1 hh).1
  have t1 : ∀ (g:Nat) (cur:Array Value) (e:TypeId) (f:Nat × Nat),w1.heap[g]?=some (.cells cur e f)→w2.heap[g]?=w1.heap[g]?:=fun g cur e f hc=>by
   refine hgr.block g (Array.getElem?_eq_some_iff.1 hc).1 fun eb=>?_
   cases eb
   rw [hh] at hc;cases hc
  have t2 : ∀ (g:Nat),g < w1.heap.size → ∀ (cur:Array Value) (e:TypeId) (f:Nat × Nat),w2.heap[g]?=some (.cells cur e f)→w1.heap[g]?=some (.cells cur e f):=fun g hg cur e f hc=>by
   by_cases eb:g=b
   ·subst eb;rw [hh2] at hc;cases hc
   ·rw [← hgr.block g hg (fun e=>eb (by cases e;rfl))];exact hc
  have s2:=s1.turn hgr.size t1 t2
  have ev1:B.ev m1 (ofL st1.h) w1:=Ev.trans B.rel hev e1
  have ev2:B.ev m1 (ofL st1.h) w2:=Base.evTurn ev1 hgr.os hgr.tape hgr.output hgr.size t2 (fun g hg=>hgr.block g (Nat.lt_of_lt_of_le hg ev1.size) (fun e=>by cases e;omega))
  exact ⟨.normal,_,st1.h,_,m1,rfl,hrest,s2.putV (.val _),ev2,hb,hown2⟩
 simpa [List.range_eq_range'] using key
theorem AG.make {id:Nat} {ops:Array Oper} {post:List Oper} {o:Oper} {t:TypeId} (hops:ops.toList=o::post) (ho:o.op = .makeMap t none) (hgd:o.guard=none)
 (H : ∀ (B' : Base) (b:Nat),ch sl fun sl=>cw h fun h=>frcL (aput sl o.dst (.val (.map (some b)))) fun sl=>de P ops.toList (fun _ sl h=>Q .normal sl h (some (b,0,.map []))) post [] sl h) :
 AG P k e B (.region id ops false) Q sl h none:=by
 intro m w a hs hev hg
 obtain ⟨p1,p2,p3,p4⟩:=lc (pre:=[]) (by simpa using hops)
 refine wp_region ?_
 have key:wpOps P ops.toList.toArray (fun x a' w' => ∃ x' sl' h' mp' m', x=AExit.conc x' ∧ Q x' sl' h' mp' ∧ StR m' sl' (ofL h') a' w' ∧ B.ev m' (ofL h') w' ∧ GhM P k e B mp' w') (List.range' (0 + 0) (ops.toList.length - (0 + 0))) a w:=by
  rw [show List.range' (0 + 0) (ops.toList.length - (0 + 0))=_ from p2]
  simp only [wpOps,List.getElem?_toArray,List.length_nil,show ops.toList[0]?=some o from p1]
  rw [dE (m:=m) (h:=ofL h) (w:=w) (b:=true) (sl:=sl) (by unfold awanted;rw [hgd]) (fun t _=>hs.slots t),if_pos rfl]
  left
  unfold Oper.wp
  have hx:(execOp a.eval o).run P w = .ok (.value (.map (some w.heap.size))) (w.alloc (.map #[] 0)):=by
   simp [execOp,ho,run_makeMap]
  rw [hx,Oper.upon_value]
  have hgr:=World.grownBy_alloc w (.map #[] 0) none
  have old : ∀ g,g < w.heap.size→(w.alloc (.map #[] 0)).heap[g]?=w.heap[g]?:=fun g hg=>hgr.block g hg (by simp)
  have t1 : ∀ (g:Nat) (cur:Array Value) (e:TypeId) (f:Nat × Nat),w.heap[g]?=some (.cells cur e f)→(w.alloc (.map #[] 0)).heap[g]?=w.heap[g]?:=fun g cur e f hc=>old g (Array.getElem?_eq_some_iff.1 hc).1
  have t2 : ∀ (g:Nat),g < w.heap.size → ∀ (cur:Array Value) (e:TypeId) (f:Nat × Nat),(w.alloc (.map #[] 0)).heap[g]?=some (.cells cur e f)→w.heap[g]?=some (.cells cur e f):=fun g hg cur e f hc=>by rw [← old g hg];exact hc
  have s2:=hs.turn hgr.size t1 t2
  have ev2:B.ev m (ofL h) (w.alloc (.map #[] 0)):=Base.evTurn hev hgr.os hgr.tape hgr.output hgr.size t2 (fun g hg=>old g (Nat.lt_of_lt_of_le hg hev.size))
  have hg2:GhM P k e B (some (w.heap.size,0,.map [])) (w.alloc (.map #[] 0)):=⟨hev.size,World.ownsMap_made w P k _⟩
  have H2:=H B w.heap.size
  simp only [bH,bZ,ca] at H2
  obtain ⟨ps2,st2,hp2,hk2⟩:=cz _ _ _ _ (dy _ _ _ _ H2)
  have s3:=s2.putV (d:=o.dst) (R.val (m:=m) (h:=ofL h) (w:=w.alloc (.map #[] 0)) (.map (some w.heap.size)))
  refine Plan.lexTo s2.rel [] post (0 + 1) _ _ ps2 p3 hp2 m _ _ s3 (Ev.refl _ _ _) fun m2 a2 w2 s4 e2=>?_
  have:ops.toList.length - (0 + 1 + post.length)=0:=by rw [hops];simp;omega
  rw [this]
  exact ⟨.normal,st2.sl,st2.h,_,m2,rfl,hk2,s4,Ev.trans B.rel ev2 e2,GhM.keep s2.rel e2 hg2⟩
 simpa [List.range_eq_range'] using key
def vi (B:Base) {X:Type} (lab:X→Nat) (F:X→List AV) (G:X→List Own) (M:X→Option MapS) (I:X→Prop) (ok:X→Prop) (Q:GQ):GQ
 | .goto l,sl,h,mp => ∃ y,I y∧lab y=l∧ok y∧M y=mp∧qConv B sl h (F y) (G y)
 | x,sl,h,mp=>Q x sl h mp
theorem AG.scope {X:Type} {body:Code} (lab:X→Nat) (F:X→List AV) (G:X→List Own) (M:X→Option MapS) (I:X→Prop) (μ:X→Nat) (hl : ∀ x,(findLabel body (lab x)).isSome=true)
 (first:AG P k e B body (vi B lab F G M I (fun _=>True) Q) sl h mp) (pass : ∀ x,I x → ∀ rest,findLabel body (lab x)=some rest→AG P k e B rest (vi B lab F G M I (fun y=>μ y < μ x) Q) (F x) (G x) (M x)):AG P k e B (.scope body) Q sl h mp:=by
 intro m w a hs ev hg0 b ks cs
 have hg : ∀ l rest,findLabel body l=some rest→gotoIn l (.inScope body::ks)=some (.code rest :: .inScope body::ks):=fun l rest hf=>by simp [gotoIn,hf]
 have key : ∀ n x,μ x=n→I x → ∀ (m:Nm) (w:World) (a:Go.Act) (rest:Code),findLabel body (lab x)=some rest→StR m (F x) (ofL (G x)) a w→B.ev m (ofL (G x)) w→GhM P k e B (M x) w →
  ∃ x a' w', (∃ x' sl' h' mp' m', x=AExit.conc x' ∧ Q x' sl' h' mp' ∧ StR m' sl' (ofL h') a' w' ∧ B.ev m' (ofL h') w' ∧ GhM P k e B mp' w')∧Arrives P (lone (b.at a (.code rest :: .inScope body::ks)) cs w) b ks cs x a' w' := by
  intro n
  induction n using Nat.strongRecOn with
  | _ n ih =>
    intro x hx hI m w a rest hf hs ev hgm
    obtain ⟨x1,a₁,w₁,⟨x', sl', h', mp', m', rfl,hq,hs', ev', hg'⟩,harr⟩:=pass x hI rest hf m w a hs ev hgm b (.inScope body::ks) cs
    cases x' with
    | normal=>exact ⟨.normal,a₁,w₁,⟨.normal,sl', h', mp', m', rfl,hq,hs', ev', hg'⟩,Steps.trans harr (.one step_inScope)⟩
    | exit id=>exact ⟨.exit id,a₁,w₁,⟨.exit id,sl', h', mp', m', rfl,hq,hs', ev', hg'⟩,fun k' hk=>harr k' (by simp [exitTo,hk])⟩
    | ret=>exact ⟨_,a₁,w₁,⟨.ret,sl', h', mp', m', rfl,hq,hs', ev', hg'⟩,harr⟩
    | goto l =>
      obtain ⟨y,hIy,hy,hlt,hM,hcv⟩:=hq
      unfold qConv at hcv
      obtain ⟨m2,hs2,ev2⟩:=hcv m' w₁ a₁ hs' ev'
      obtain ⟨r2,hr2⟩:=Option.isSome_iff_exists.1 (hl y)
      obtain ⟨e2,a₂,w₂,hq₂,harr₂⟩:=ih _ (by omega) y rfl hIy m2 w₁ a₁ r2 hr2 hs2 ev2 (by rw [hM];exact hg')
      subst hy
      exact ⟨e2,a₂,w₂,hq₂,.of_steps (harr _ (hg _ r2 hr2)) harr₂⟩
 obtain ⟨x1,a₁,w₁,⟨x', sl', h', mp', m', rfl,hq,hs', ev', hg'⟩,harr⟩:=first m w a hs ev hg0 b (.inScope body::ks) cs
 cases x' with
 | normal=>exact ⟨.normal,a₁,w₁,⟨.normal,sl', h', mp', m', rfl,hq,hs', ev', hg'⟩,.head step_scope (Steps.trans harr (.one step_inScope))⟩
 | exit id=>exact ⟨.exit id,a₁,w₁,⟨.exit id,sl', h', mp', m', rfl,hq,hs', ev', hg'⟩,fun k' hk => .head step_scope (harr k' (by simp [exitTo,hk]))⟩
 | ret=>exact ⟨_,a₁,w₁,⟨.ret,sl', h', mp', m', rfl,hq,hs', ev', hg'⟩,.of_steps (.one step_scope) harr⟩
 | goto l =>
   obtain ⟨y,hIy,hy,_,hM,hcv⟩:=hq
   unfold qConv at hcv
   obtain ⟨m2,hs2,ev2⟩:=hcv m' w₁ a₁ hs' ev'
   obtain ⟨r2,hr2⟩:=Option.isSome_iff_exists.1 (hl y)
   obtain ⟨e2,a₂,w₂,hq₂,harr₂⟩:=key _ y rfl hIy m2 w₁ a₁ r2 hr2 hs2 ev2 (by rw [hM];exact hg')
   subst hy
   exact ⟨e2,a₂,w₂,hq₂,.of_steps (.head step_scope (harr _ (hg _ r2 hr2))) harr₂⟩
theorem qAW.ofG {Q:AExit→List AV→List Own→Prop} (H:AG P k e B c (fun x sl h _=>Q x sl h) sl h none):qAW P B c Q sl h:=by
 unfold qAW
 intro m w a hs hev
 exact wp_mono (H m w a hs hev trivial) fun x a' w' ⟨x', sl', h', mp', m', h1,h2,h3,h4,_⟩=>⟨x', ⟨sl', h'⟩,m', h1,h2,h3,h4⟩
def fL (B:Base) (l0 l1:Nat) (F0:List AV) (G0:List Own) (I0:Prop) {X:Type} (F:X→List AV) (G:X→List Own) (M:X→Option MapS) (I:X→Prop) (ok:X→Prop) (Q:GQ):GQ
 | .goto l,sl,h,mp=>(l=l0∧I0∧qConv B sl h F0 G0)∨(l=l1 ∧ ∃ y,I y∧ok y∧M y=mp∧qConv B sl h (F y) (G y))
 | x,sl,h,mp=>Q x sl h mp
theorem qAGs.scope2 {L:List Code} {body:Code} (l0 l1:Nat) {R0 R1:Code} {Lb L0 L1:List Code} (hne:l0≠l1) (h0:findLabel body l0=some R0) (h1:findLabel body l1=some R1) (sb:spine body=Lb) (s0:spine R0=L0) (s1:spine R1=L1) (F0:List AV) (G0:List Own) (I0:Prop)
 {X:Type} (F:X→List AV) (G:X→List Own) (M:X→Option MapS) (I:X→Prop) (μ:X→Nat)
 (first : ∀ E:GQ,E=fL B l0 l1 F0 G0 I0 F G M I (fun _=>True) (cm (fun sl h mp=>qAGs P k e B L Q sl h mp) Q)→qAGs P k e B Lb E sl h mp)
 (back : ∀ E:GQ, ∀ x,I x→E=fL B l0 l1 F0 G0 I0 F G M I (fun y=>μ y < μ x) (cm (fun sl h mp=>qAGs P k e B L Q sl h mp) Q)→qAGs P k e B L1 E (F x) (G x) (M x))
 (fwd : ∀ E:GQ, ∀ mp,I0→E=fL B l0 l1 F0 G0 I0 F G M I (fun _=>False) (cm (fun sl h mp=>qAGs P k e B L Q sl h mp) Q)→qAGs P k e B L0 (fun x sl h mp=>match x with | .goto _=>False|x=>E x sl h mp) F0 G0 mp):qAGs P k e B (.scope body::L) Q sl h mp:=by
 unfold qAGs
 have wrap : ∀ x sl h mp,cm (fun sl h mp=>qAGs P k e B L Q sl h mp) Q x sl h mp→cm (AGs P k e B L Q) Q x sl h mp:=fun x sl h mp H=>by
  cases x with
  | normal=>unfold cm at H ⊢; unfold qAGs at H;exact H
  | exit id=>exact H
  | goto l=>exact H
  | ret=>exact H
 refine AG.mono ?_ wrap
 refine AG.scope (X:=Option MapS ⊕ X) (fun | .inl _=>l0 | .inr _=>l1) (fun | .inl _=>F0 | .inr y=>F y) (fun | .inl _=>G0 | .inr y=>G y) (fun | .inl mp=>mp | .inr y=>M y) (fun | .inl _=>I0 | .inr y=>I y) (fun | .inl _=>0 | .inr y=>μ y + 1) (fun x=>by cases x<;>simp [h0,h1]) ?_ ?_
 ·refine AG.mono (qAGs.ofSpine sb (first _ rfl)) fun x sl h mp H=>?_
  cases x with
  | goto l =>
    rcases H with ⟨rfl,h2,h3⟩|⟨rfl,y,h2,_,h3,h4⟩
    ·exact ⟨.inl mp,h2,rfl,trivial,rfl,h3⟩
    ·exact ⟨.inr y,h2,rfl,trivial,h3,h4⟩
  | normal=>exact H
  | exit id=>exact H
  | ret=>exact H
 ·intro x hx rest hr
  cases x with
  | inl mp =>
    have e1:R0=rest:=by
     have:=h0.symm.trans hr
     exact Option.some.inj this
    subst e1
    refine AG.mono (qAGs.ofSpine s0 (fwd _ mp hx rfl)) fun x sl h mp H=>?_
    cases x with
    | goto l=>exact H.elim
    | normal=>exact H
    | exit id=>exact H
    | ret=>exact H
  | inr y =>
    have e1:R1=rest:=by
     have:=h1.symm.trans hr
     exact Option.some.inj this
    subst e1
    refine AG.mono (qAGs.ofSpine s1 (back _ y hx rfl)) fun x sl h mp H=>?_
    cases x with
    | goto l =>
      rcases H with ⟨rfl,h2,h3⟩|⟨rfl,z,h2,hlt,h3,h4⟩
      ·exact ⟨.inl mp,h2,rfl,Nat.succ_pos _,rfl,h3⟩
      ·exact ⟨.inr z,h2,rfl,Nat.succ_lt_succ hlt,h3,h4⟩
    | normal=>exact H
    | exit id=>exact H
    | ret=>exact H
theorem qAWs.ofG {L:List Code} {Q:AExit→List AV→List Own→Prop} (H:qAGs P k e B (c::[]) (fun x sl h _=>match x with | .normal=>qRest P B L Q sl h|x=>Q x sl h) sl h none):qAWs P B (c::L) Q sl h:=by
 unfold qAGs at H
 have H:=qAW.ofG (Q:=fun x sl h=>match x with | .normal=>qRest P B L Q sl h|x=>Q x sl h) (AGs.one H)
 unfold qAW at H
 unfold qAWs
 refine AW.mono H fun x st H=>?_
 cases x with
 | normal=>unfold qRest at H;exact H
 | exit id=>exact H
 | goto l=>exact H
 | ret=>exact H
theorem qAGs.look {id:Nat} {ops:List Oper} {L:List Code} {pre post:List Oper} {o:Oper} {t:TypeId} {tm tk:Nat} {b n:Nat} {D:DataW Unit} (hops:ops=pre ++ o::post) (ho:o.op = .lookup t (.tmp tm) (.tmp tk) false)
 (KL:Keyed P k) (ht:P.underlying t=some (.map k e)) (he:P.underlying e=some .bool) (hz : ∀ w,(zeroValue e).run P w = .ok (.bool false) w)
 (H:ch sl fun sl=>cw h fun h=>de P ops (fun _ sl h=>ae sl (.tmp tm) = .val (.map (some b)) ∧ ∃ kl,kM P k (ae sl (.tmp tk)) kl∧awanted ops o sl=some true ∧
  ∀ c,D.atKey kl (.lit (.bool false)) = .lit (.bool c)→frcL (aput sl o.dst (.val (.bool c))) fun sl=>de P ops (fun _ sl h=>qAGs P k e B L Q sl h (some (b,n,D))) post [] sl h) pre [] sl h) :
 qAGs P k e B (.region id ops.toArray false::L) Q sl h (some (b,n,D)):=by
 unfold qAGs at H ⊢
 exact AG.look (Q:=cm (AGs P k e B L Q) Q) hops ho KL ht he hz fun _=>H
theorem qAGs.upd {id:Nat} {ops:List Oper} {L:List Code} {pre:List Oper} {o:Oper} {t:TypeId} {tm tk:Nat} {b n:Nat} {D:DataW Unit} (hops:ops=pre ++ [o]) (ho:o.op = .mapUpdate t (.tmp tm) (.tmp tk) (.const (.bool true))) (hgd:o.guard=none)
 (KL:Keyed P k) (ht:P.underlying t=some (.map k e)) (he:P.underlying e=some .bool) (hn:n < maxLen)
 (H:ch sl fun sl=>cw h fun h=>de P ops (fun _ sl h=>ae sl (.tmp tm) = .val (.map (some b)) ∧ ∃ kl,kM P k (ae sl (.tmp tk)) kl ∧
  frcL (aput sl o.dst (.val undef)) fun sl=>qAGs P k e B L Q sl h (some (b,n + 1,D.put kl (.lit (.bool true))))) pre [] sl h) :
 qAGs P k e B (.region id ops.toArray false::L) Q sl h (some (b,n,D)):=by
 unfold qAGs at H ⊢
 exact AG.upd (Q:=cm (AGs P k e B L Q) Q) hops ho hgd KL ht he hn fun _=>H
theorem qAGs.make {id:Nat} {ops:List Oper} {L:List Code} {post:List Oper} {o:Oper} {t:TypeId} (hops:ops=o::post) (ho:o.op = .makeMap t none) (hgd:o.guard=none)
 (H : ∀ b:Nat,ch sl fun sl=>cw h fun h=>frcL (aput sl o.dst (.val (.map (some b)))) fun sl=>de P ops (fun _ sl h=>qAGs P k e B L Q sl h (some (b,0,.map []))) post [] sl h) :
 qAGs P k e B (.region id ops.toArray false::L) Q sl h none:=by
 unfold qAGs at H ⊢
 exact AG.make (Q:=cm (AGs P k e B L Q) Q) hops ho hgd fun _ b=>H b
theorem AGs.mono : ∀ (l:List Code) {Q Q' : GQ} {sl:List AV} {h:List Own} {mp:Option MapS}, AGs P k e B l Q sl h mp→(∀ x sl h mp,Q x sl h mp→Q' x sl h mp)→AGs P k e B l Q' sl h mp
 | [],Q,Q', sl,h,mp,H,hq=>hq _ _ _ _ H
 | c::l,Q,Q', sl,h,mp,H,hq=>AG.mono H fun x sl h mp H=>by
  cases x with
  | normal=>exact AGs.mono l H hq
  | exit id=>exact hq _ _ _ _ H
  | goto l' => exact hq _ _ _ _ H
  | ret=>exact hq _ _ _ _ H
theorem AGs.app : ∀ (l1 l2:List Code) {Q:GQ} {sl:List AV} {h:List Own} {mp:Option MapS}, AGs P k e B l1 (cm (AGs P k e B l2 Q) Q) sl h mp→AGs P k e B (l1 ++ l2) Q sl h mp
 | [],l2,Q,sl,h,mp,H=>H
 | c::l1,l2,Q,sl,h,mp,H=>AG.mono H fun x sl h mp H=>by
  cases x with
  | normal=>exact AGs.app l1 l2 H
  | exit id=>exact H
  | goto l' => exact H
  | ret=>exact H
theorem AGs.skip {L:List Code} (H:AGs P k e B L Q sl h mp):AGs P k e B (.skip::L) Q sl h mp:=fun m w a hs hev hg=>wp_skip ⟨.normal,sl,h,mp,m,rfl,H,hs,hev,hg⟩
theorem AGs.label {L:List Code} {l:Nat} (H:AGs P k e B L Q sl h mp):AGs P k e B (.label l::L) Q sl h mp:=fun m w a hs hev hg=>wp_label ⟨.normal,sl,h,mp,m,rfl,H,hs,hev,hg⟩
theorem qAGs.scope3 {L:List Code} {body:Code} (l0 l1 kp:Nat) {R0 R1:Code} {Lp Lr L0:List Code} (hne:l0≠l1) (h0:findLabel body l0=some R0) (h1:findLabel body l1=some R1) (sp:(Go.Proofs.YtceohcbokbalhaaGreat.spine body).take kp=Lp) (sr:(Go.Proofs.YtceohcbokbalhaaGreat.spine body).drop kp = .label l1::Lr) (s0:Go.Proofs.YtceohcbokbalhaaGreat.spine R0=L0) (s1:Go.Proofs.YtceohcbokbalhaaGreat.spine R1 = .skip::Lr) (F0:List AV) (G0:List Own) (I0:Prop)
 {X:Type} (F:X→List AV) (G:X→List Own) (M:X→Option MapS) (I:X→Prop) (μ:X→Nat)
 (first : ∀ E:GQ,E=(fun x sl h mp=>match x with | .normal => ∃ y,I y∧M y=mp∧qConv B sl h (F y) (G y) | .goto l=>l=l0∧I0∧qConv B sl h F0 G0|_=>False)→qAGs P k e B Lp E sl h mp)
 (back : ∀ E:GQ, ∀ x,I x→E=fL B l0 l1 F0 G0 I0 F G M I (fun y=>μ y < μ x) (cm (fun sl h mp=>qAGs P k e B L Q sl h mp) Q)→qAGs P k e B Lr E (F x) (G x) (M x))
 (fwd : ∀ E:GQ, ∀ mp,I0→E=fL B l0 l1 F0 G0 I0 F G M I (fun _=>False) (cm (fun sl h mp=>qAGs P k e B L Q sl h mp) Q)→qAGs P k e B L0 (fun x sl h mp=>match x with | .goto _=>False|x=>E x sl h mp) F0 G0 mp):qAGs P k e B (.scope body::L) Q sl h mp:=by
 refine qAGs.scope2 l0 l1 hne h0 h1 rfl s0 s1 F0 G0 I0 F G M I μ (fun E hE=>?_) (fun E x hx hE=>?_) fwd
 ·rw [← List.take_append_drop kp (Go.Proofs.YtceohcbokbalhaaGreat.spine body),sp,sr]
  have f:=first _ rfl
  unfold qAGs at f ⊢
  refine AGs.app _ _ (AGs.mono _ f fun x sl h mp H=>?_)
  subst hE
  cases x with
  | normal =>
    obtain ⟨y,hy,hM,hcv⟩:=H
    have b:=back _ y hy rfl
    unfold qAGs at b
    subst hM
    have c:AGs P k e B (.label l1::Lr) (fL B l0 l1 F0 G0 I0 F G M I (fun _=>True) (cm (fun sl h mp=>qAGs P k e B L Q sl h mp) Q)) (F y) (G y) (M y):=AGs.label (AGs.mono _ b fun x sl h mp H=>by
     cases x with
     | goto l =>
       rcases H with ⟨a,b,c⟩|⟨a,z,b,_,c,d⟩
       ·exact .inl ⟨a,b,c⟩
       ·exact .inr ⟨a,z,b,trivial,c,d⟩
     | normal=>unfold fL cm;unfold qAGs;exact H
     | exit id=>exact H
     | ret=>exact H)
    unfold qAGs at c
    exact AG.conv hcv c
  | goto l=>exact .inl H
  | exit id=>exact H.elim
  | ret=>exact H.elim
 ·have b:=back E x hx hE
  unfold qAGs at b ⊢
  exact AGs.skip b
theorem kw {α:Type} {l pre post:List α} {o:α} {n:Nat} (h1:l.take n=pre) (h2:l.drop n=o::post):l=pre ++ o::post:=by rw [← h1, ← h2,List.take_append_drop]
theorem qAGs.condT {x y:Code} {t:Operand} {L Lx:List Code} (hv:ae sl t = .val (.bool true)) (hx:spine x=Lx) (H : ∀ E:GQ,E=cm (fun sl h mp=>qAGs P k e B L Q sl h mp) Q→qAGs P k e B Lx E sl h mp):qAGs P k e B (.cond t x y::L) Q sl h mp:=by
 have H:=qAGs.ofSpine hx (H _ rfl)
 unfold qAGs
 refine AG.mono (Q:=cm (fun sl h mp=>qAGs P k e B L Q sl h mp) Q) (fun m w a hs hev hg=>?_) fun x sl h mp H=>?_
 ·have hR:=hs.slots.eval t
  rw [hv] at hR
  exact wp_cond_true hR.val_inv (H m w a hs hev hg)
 ·cases x with
  | normal=>unfold cm at H ⊢; unfold qAGs at H;exact H
  | exit id=>exact H
  | goto l=>exact H
  | ret=>exact H
end
attribute [irreducible] qAGs
end Go.Proofs.YtceohcbokbalhaaGreat
/- My own way of reckoning with data: a heap of names over the machine's heap, the laws of its change, what code comes to on it. No condition. -/
import Derived.Test.YtceohcbokbalhaaGreatAhiA
import Derived.ScopeJumps
namespace Go.Proofs.YtceohcbokbalhaaGreat
open Go.RowKit
set_option linter.unusedVariables false
set_option linter.unusedSimpArgs false
section
variable {P:Program}
def bef1 (acc:List Nat) (o:Oper):Nat:=o.after.toList.foldl (fun s e=>if Region.binds .any e then s ||| (2 ^ e.on) ||| acc.getD e.on 0 else s) 0
def befs (ops:List Oper):List Nat:=ops.foldl (fun acc o=>acc ++ [bef1 acc o]) []
def kU (L:Nat→Bool) (o:Oper):Prop := ∀ e∈o.after,Region.binds .any e=true→L e.on=true
def oy (ops:List Oper) (L:Nat→Bool):Prop := ∀ k o,ops[k]?=some o→L k=true→kU L o
theorem jf (acc:List Nat) (i:Nat) : ∀ (es:List Edge) (s:Nat),(es.foldl (fun s e=>if Region.binds .any e then s ||| (2 ^ e.on) ||| acc.getD e.on 0 else s) s).testBit i=true →
 s.testBit i=true ∨ ∃ e∈es,Region.binds .any e=true∧(i=e.on∨(acc.getD e.on 0).testBit i=true)
 | [],s,h => .inl h
 | e::es,s,h=>by
   rw [List.foldl_cons] at h
   rcases jf acc i es _ h with h|⟨e', he,hb,hi⟩
   ·split at h
    ·rename_i hb
     simp only [Nat.testBit_or,Bool.or_eq_true] at h
     rcases h with (h|h)|h
     ·exact .inl h
     ·refine .inr ⟨e,by simp,hb,.inl ?_⟩
      rw [Nat.testBit_two_pow] at h
      exact (by simpa using h:e.on=i).symm
     ·exact .inr ⟨e,by simp,hb,.inr h⟩
    ·exact .inl h
   ·exact .inr ⟨e', by simp [he],hb,hi⟩
theorem po {ops:List Oper} {L:Nat→Bool} (hL:oy ops L) : ∀ (k:Nat) (o:Oper) (i:Nat),ops[k]?=some o→kU L o→((befs ops).getD k 0).testBit i=true→L i=true:=by
 -- a beginning of the list
 have key : ∀ n,n≤ops.length→(befs (ops.take n)).length=n ∧ ∀ (k:Nat) (o:Oper) (i:Nat),k < n→ops[k]?=some o→kU L o→((befs (ops.take n)).getD k 0).testBit i=true→L i=true:=by
  intro n
  induction n with
  | zero=>intro _;exact ⟨by simp [befs],by omega⟩
  | succ n ih =>
    intro hn
    obtain ⟨hl,hk⟩:=ih (by omega)
    have e0:ops.take (n + 1)=ops.take n ++ [ops[n]]:=List.take_succ_eq_append_getElem (by omega)
    have e1:befs (ops.take (n + 1))=befs (ops.take n) ++ [bef1 (befs (ops.take n)) ops[n]]:=by
     unfold befs
     rw [e0,List.foldl_append];rfl
    refine ⟨by rw [e1];simp [hl],fun k o' i hlt ho hd hb=>?_⟩
    rw [e1] at hb
    by_cases hlt:k < n
    ·have:(befs (ops.take n) ++ [bef1 (befs (ops.take n)) ops[n]]).getD k 0=(befs (ops.take n)).getD k 0:=by
      simp only [List.getD_eq_getElem?_getD]
      rw [List.getElem?_append_left (by omega)]
     rw [this] at hb
     exact hk k o' i hlt ho hd hb
    ·have hk0:k=n:=by omega
     subst hk0
     have ho' : ops[k]?=some ops[k]:=List.getElem?_eq_getElem (by omega)
     rw [ho'] at ho
     cases ho
     have:(befs (ops.take k) ++ [bef1 (befs (ops.take k)) ops[k]]).getD k 0=bef1 (befs (ops.take k)) ops[k]:=by
      simp only [List.getD_eq_getElem?_getD]
      rw [List.getElem?_append_right (by omega),hl];simp
     rw [this] at hb
     rcases jf _ i _ _ hb with h|⟨e,hm,hbi,h|h⟩
     ·simp at h
     ·rw [h];exact hd e (by simpa using hm) hbi
     ·have hLe:L e.on=true:=hd e (by simpa using hm) hbi
      by_cases hlt2:e.on < k
      ·have hpe:ops[e.on]?=some ops[e.on]:=List.getElem?_eq_getElem (by omega)
       exact hk e.on ops[e.on] i hlt2 hpe (hL e.on ops[e.on] hpe hLe) h
      ·rw [List.getD_eq_getElem?_getD,List.getElem?_eq_none (by omega)] at h
       simp at h
 intro k o i ho hd hb
 have hkl:k < ops.length:=(List.getElem?_eq_some_iff.1 ho).1
 have:=(key ops.length (Nat.le_refl _)).2 k o i hkl ho hd
 rw [List.take_length] at this
 exact this hb
def d9 (all:List Oper) (o o' : Oper) (p p' : List Nat × List Nat):Bool :=
 (match o.dst with|some d=>(o'.looksAt all.toArray).contains d || o'.dst == some d|none=>false) ||
 (match o'.dst with|some d=>(o.looksAt all.toArray).contains d|none=>false) ||
 p.2.any (fun x=>p'.1.contains x || p'.2.contains x) || p'.2.any (fun x=>p.1.contains x)
def eV (ops:List Oper) (ids:List (List Nat × List Nat)):Bool :=
 let bs:=befs ops
 (List.range ops.length).all fun k =>
  (ops.getD k default).after.all (fun e => !Region.binds .any e || decide (e.on < k)) &&
  (List.range k).all fun i => !d9 ops (ops.getD i default) (ops.getD k default) (ids.getD i ([],[])) (ids.getD k ([],[])) || (bs.getD k 0).testBit i
theorem cZ {h:Hp} : ∀ {T:List (Nat × Own)} {x:Nat}, x ∉ T.map (·.1)→h.upds T x=h x
 | [],_,_=>rfl
 | p::T,x,hx=>by
   simp only [List.map_cons,List.mem_cons,not_or] at hx
   show (h.upd p.1 p.2).upds T x=h x
   rw [cZ hx.2,Hp.upd_ne _ _ hx.1]
theorem jv : ∀ {T:List (Nat × Own)} {h h' : Hp} {x:Nat}, x∈T.map (·.1)→h.upds T x=h'.upds T x
 | [],_,_,_,hx=>by simp at hx
 | p::T,h,h', x,hx=>by
   show (h.upd p.1 p.2).upds T x=(h'.upd p.1 p.2).upds T x
   by_cases hm:x∈T.map (·.1)
   ·exact jv hm
   ·rw [cZ hm,cZ hm]
    simp only [List.map_cons,List.mem_cons] at hx
    rcases hx with rfl|hx
    ·rw [Hp.upd_same,Hp.upd_same]
    ·exact absurd hx hm
section sets
variable (all:List Oper) (ps:List PStep) (sl0:List AV) (h0:Hp)
def aP (L:Nat→Bool):Nat→List AV
 | 0=>sl0
 | i + 1=>if L i then aput (aP L i) (all.getD i default).dst (ps.getD i default).val else aP L i
def aL (L:Nat→Bool):Nat→Hp
 | 0=>h0
 | i + 1=>if L i && (ps.getD i default).w then (aL L i).upds (ps.getD i default).T else aL L i
end sets
theorem fA {all:List Oper} {ps:List PStep} {sl0:List AV} {L:Nat→Bool} : ∀ i,(aP all ps sl0 L i).length=sl0.length
 | 0=>rfl
 | i + 1=>by
   rw [aP]
   split
   ·cases h:(all.getD i default).dst<;>simp [aput,fA i]
   ·exact fA i
theorem j9 {sl:List AV} {d:Option Tmp} {v:AV} {t:Nat} (h:d≠some t):(aput sl d v)[t]?=sl[t]?:=by
 cases d with
 | none=>rfl
 | some d =>
   have:d≠t:=fun e=>h (by rw [e])
   simp [aput,List.getElem?_set_ne this]
theorem Plan.at {all:List Oper} : ∀ {rest:List Oper} {sl:List AV} {h:Hp} {ps:List PStep} {sl' : List AV} {h' : Hp}, Plan P all rest sl h ps sl' h' →
 ps.length=rest.length∧aP rest ps sl (fun _=>true) rest.length=sl' ∧ aL ps h (fun _=>true) rest.length=h' ∧
  ∀ i o,rest[i]?=some o→awanted all o (aP rest ps sl (fun _=>true) i)=some (ps.getD i default).w ∧
   ((ps.getD i default).w=true→OpW P o (aP rest ps sl (fun _=>true) i) (ps.getD i default).rd (ps.getD i default).T (ps.getD i default).av ∧ ∀ q∈(ps.getD i default).rd,aL ps h (fun _=>true) i q.1=q.2):=by
 intro rest sl h ps sl' h' hp
 induction hp with
 | nil sl h=>exact ⟨rfl,rfl,rfl,by simp⟩
 | cons o rest sl h p ps sl' h' hw hok hrest ih =>
   obtain ⟨i1,i2,i3,i4⟩:=ih
   have s1 : ∀ i,aP (o::rest) (p::ps) sl (fun _=>true) (i + 1)=aP rest ps (aput sl o.dst p.val) (fun _=>true) i:=by
    intro i
    induction i with
    | zero=>simp [aP]
    | succ i ih=>rw [aP,ih];simp [aP]
   have s2 : ∀ i,aL (p::ps) h (fun _=>true) (i + 1)=aL ps (if p.w then h.upds p.T else h) (fun _=>true) i:=by
    intro i
    induction i with
    | zero=>simp [aL]
    | succ i ih=>rw [aL,ih];simp [aL]
   refine ⟨by simp [i1],?_,?_,?_⟩
   ·rw [List.length_cons,s1];exact i2
   ·rw [List.length_cons,s2];exact i3
   ·intro i o' ho
    cases i with
    | zero =>
      simp at ho
      subst ho
      exact ⟨hw,hok⟩
    | succ i =>
      rw [s1,s2]
      exact i4 i o' (by simpa using ho)
theorem lU {all:List Oper} {o o' : Oper} {p p' : List Nat × List Nat} {d:Tmp} (h:o.dst=some d) (h' : d∈o'.looksAt all.toArray∨o'.dst=some d):d9 all o o' p p' = true:=by
 unfold d9
 rw [h]
 rcases h' with h' | h' <;> simp [h']
theorem rc {all:List Oper} {o o' : Oper} {p p' : List Nat × List Nat} {d:Tmp} (h:o'.dst=some d) (h' : d∈o.looksAt all.toArray):d9 all o o' p p' = true:=by
 unfold d9
 rw [h]
 simp [h']
theorem jY {all:List Oper} {o o' : Oper} {p p' : List Nat × List Nat} {x:Nat} (h:x∈p.2) (h' : x∈p'.1∨x∈p'.2):d9 all o o' p p' = true:=by
 unfold d9
 have:(p.2.any fun x=>p'.1.contains x || p'.2.contains x)=true:=List.any_eq_true.2 ⟨x,h,by simpa using h'⟩
 simp only [this,Bool.or_true,Bool.true_or]
theorem sk {all:List Oper} {o o' : Oper} {p p' : List Nat × List Nat} {x:Nat} (h:x∈p'.2) (h' : x∈p.1):d9 all o o' p p' = true:=by
 unfold d9
 have:(p'.2.any fun x=>p.1.contains x)=true:=List.any_eq_true.2 ⟨x,h,by simpa using h'⟩
 simp only [this,Bool.or_true]
theorem ml {ops:List Oper} {listed:Array Bool} {i:Nat} (hs:listed.size=ops.length) (h:i∈Region.ready .any ops.toArray listed) : ∃ o,ops[i]?=some o∧listed.getD i false=false∧kU (fun j=>listed.getD j false) o:=by
 simp only [Region.ready,List.mem_filter,List.mem_range,Bool.and_eq_true,List.getElem?_toArray,List.size_toArray] at h
 obtain ⟨hlt,h1,h2⟩:=h
 have ho:ops[i]?=some ops[i]:=List.getElem?_eq_getElem hlt
 rw [ho] at h2
 refine ⟨ops[i],ho,?_,fun e he hb=>?_⟩
 ·have:i < listed.size:=by omega
  simp [Array.getD,this] at h1 ⊢
  exact h1
 ·simp only [Option.map_some,Option.getD_some,Array.all_eq_true] at h2
  obtain ⟨q,hq,rfl⟩:=Array.mem_iff_getElem.1 he
  have:=h2 q hq
  rw [hb] at this
  simpa using this
theorem iM {p:Nat→Bool} {n k:Nat} (h:(List.range n).all p=true) (hk:k < n):p k=true:=List.all_eq_true.1 h k (List.mem_range.2 hk)
theorem Plan.any {all:List Oper} {Q:Exit→Act→World→Prop} {sl0:List AV} {h0:Hp} {ps:List PStep} {sl' : List AV} {h' : Hp} (hp:Plan P all all sl0 h0 ps sl' h') (hok:eV all (ps.map fun p=>(p.rids,p.wids))=true)
 {m0:Nm} {w0:World} (rel0:Rel m0 h0 w0) {a0:Act} (st0:StR m0 sl0 h0 a0 w0) (hQ : ∀ m' a' w', StR m' sl' h' a' w' → Ev m0 h0 w0 m' h' w' → Q .normal a' w') {wd:World} (hd:wd.heap=w0.heap) (d1:wd.os=w0.os) (d2:wd.tape=w0.tape) (d3:wd.output=w0.output) :
 wpAny P .any all.toArray Q all.length (Array.replicate all.length false) a0 wd:=by
 obtain ⟨pl,pe1,pe2,pi⟩:=hp.at
 have idsAt : ∀ i,i < all.length→(ps.map fun p=>(p.rids,p.wids)).getD i ([],[])=((ps.getD i default).rids,(ps.getD i default).wids):=fun i hi=>by
  have:i < ps.length:=by omega
  simp [List.getD,this]
 have opAt : ∀ i o,all[i]?=some o→all.getD i default=o:=fun i o ho=>by simp [List.getD,ho]
 -- what the check says
 have chk : ∀ i k oi ok,i < k→all[i]?=some oi→all[k]?=some ok→d9 all oi ok ((ps.getD i default).rids,(ps.getD i default).wids) ((ps.getD k default).rids,(ps.getD k default).wids)=true→((befs all).getD k 0).testBit i=true:=by
  intro i k oi ok hik hi hk ht
  have hkl:k < all.length:=(List.getElem?_eq_some_iff.1 hk).1
  have h1:=iM hok hkl
  simp only [Bool.and_eq_true] at h1
  have h2:=iM h1.2 hik
  rw [opAt i oi hi,opAt k ok hk,idsAt i (by omega),idsAt k hkl,ht] at h2
  simpa using h2
 have lower : ∀ k o,all[k]?=some o → ∀ e∈o.after,Region.binds .any e=true→e.on < k:=by
  intro k o hk e he hb
  have hkl:k < all.length:=(List.getElem?_eq_some_iff.1 hk).1
  have h1:=iM hok hkl
  simp only [Bool.and_eq_true] at h1
  have h2:=h1.1
  rw [opAt k o hk,Array.all_eq_true] at h2
  obtain ⟨q,hq,rfl⟩:=Array.mem_iff_getElem.1 he
  have:=h2 q hq
  simpa [hb] using this
 -- the step
 have main : ∀ (fuel:Nat) (listed:Array Bool) (a:Act) (w:World) (m:Nm),listed.size=all.length→((List.range all.length).filter fun i => !listed.getD i false).length=fuel→oy all (fun j=>listed.getD j false) →
  StR m (aP all ps sl0 (fun j=>listed.getD j false) all.length) (aL ps h0 (fun j=>listed.getD j false) all.length) a w→Ev m0 h0 w0 m (aL ps h0 (fun j=>listed.getD j false) all.length) w→wpAny P .any all.toArray Q fuel listed a w:=by
  intro fuel
  induction fuel with
  | zero =>
    intro listed a w m hs hf hc st ev
    have hall : ∀ i,i < all.length→listed.getD i false=true:=fun i hi=>by
     have h0:=List.length_eq_zero_iff.1 hf
     rw [List.filter_eq_nil_iff] at h0
     have:=h0 i (List.mem_range.2 hi)
     simpa using this
    have es : ∀ i,i≤all.length→aP all ps sl0 (fun j=>listed.getD j false) i=aP all ps sl0 (fun _=>true) i∧aL ps h0 (fun j=>listed.getD j false) i=aL ps h0 (fun _=>true) i:=by
     intro i
     induction i with
     | zero=>intro _;exact ⟨rfl,rfl⟩
     | succ i ih =>
       intro hi
       obtain ⟨e1,e2⟩:=ih (by omega)
       have hi1:listed.getD i false=true:=hall i (by omega)
       constructor
       ·show (if listed.getD i false then _ else _)=(if true then _ else _)
        rw [hi1,e1]
       ·show (if listed.getD i false && _ then _ else _)=(if true && _ then _ else _)
        rw [hi1,e2]
    obtain ⟨e1,e2⟩:=es all.length (Nat.le_refl _)
    rw [e1,e2,pe1,pe2] at st
    rw [e2,pe2] at ev
    refine ⟨?_,hQ m a w st ev⟩
    refine List.eq_nil_iff_forall_not_mem.2 fun i hi=>?_
    obtain ⟨o,ho,hl,_⟩:=ml hs hi
    have:=hall i (List.getElem?_eq_some_iff.1 ho).1
    rw [this] at hl;cases hl
  | succ fuel ih =>
    intro listed a w m hs hf hc st ev
    refine ⟨fun hnil=>?_,fun i hi=>?_⟩
    ·-- somebody is not listed: the first of them may come up
     exfalso
     have hex : ∃ i,i < all.length∧listed.getD i false=false:=by
      have hpos:0 < ((List.range all.length).filter fun i => !listed.getD i false).length:=by omega
      obtain ⟨i,hi⟩:=List.exists_mem_of_length_pos hpos
      simp only [List.mem_filter,List.mem_range] at hi
      exact ⟨i,hi.1,by simpa using hi.2⟩
     have hmin : ∃ i,i < all.length∧listed.getD i false=false ∧ ∀ j,j < i→listed.getD j false=true:=by
      obtain ⟨i,hi⟩:=hex
      induction i using Nat.strongRecOn with
      | _ i ihs =>
        by_cases hj : ∃ j,j < i∧listed.getD j false=false
        ·obtain ⟨j,hji,hjl⟩:=hj
         exact ihs j hji ⟨by omega,hjl⟩
        ·refine ⟨i,hi.1,hi.2,fun j hji=>?_⟩
         cases hb:listed.getD j false with
         | true=>rfl
         | false=>exact absurd ⟨j,hji,hb⟩ hj
     obtain ⟨i,hi,hl,hlow⟩:=hmin
     have ho:all[i]?=some all[i]:=List.getElem?_eq_getElem hi
     have:i∈Region.ready .any all.toArray listed:=by
      simp only [Region.ready,List.mem_filter,List.mem_range,Bool.and_eq_true,List.getElem?_toArray,List.size_toArray]
      refine ⟨hi,?_,?_⟩
      ·have:i < listed.size:=by omega
       simp [Array.getD,this] at hl ⊢; exact hl
      ·rw [ho]
       simp only [Option.map_some,Option.getD_some,Array.all_eq_true]
       intro q hq
       cases hb:Region.binds .any all[i].after[q] with
       | false=>simp
       | true=>simp only [Bool.not_true,Bool.false_or];exact hlow _ (lower i _ ho _ (Array.getElem_mem hq) hb)
     rw [hnil] at this
     cases this
    ·obtain ⟨o,ho,hl,hdeps⟩:=ml hs hi
     have hil:i < all.length:=(List.getElem?_eq_some_iff.1 ho).1
     obtain ⟨hw,hop⟩:=pi i o ho
     generalize hL:(fun j=>listed.getD j false)=L at *
     have hLi:L i=false:=by rw [← hL];exact hl
     -- nobody behind it who touches what it touches is listed;everybody ahead of it who does is
     have behind : ∀ k ok,i < k→all[k]?=some ok→L k=true→d9 all o ok ((ps.getD i default).rids,(ps.getD i default).wids) ((ps.getD k default).rids,(ps.getD k default).wids)=false:=by
      intro k ok hik hk hLk
      cases ht:d9 all o ok ((ps.getD i default).rids,(ps.getD i default).wids) ((ps.getD k default).rids,(ps.getD k default).wids) with
      | false=>rfl
      | true =>
        have:=po hc k ok i hk (hc k ok hk hLk) (chk i k o ok hik ho hk ht)
        rw [hLi] at this;cases this
     have ahead : ∀ k ok,k < i→all[k]?=some ok→d9 all ok o ((ps.getD k default).rids,(ps.getD k default).wids) ((ps.getD i default).rids,(ps.getD i default).wids)=true→L k=true:=by
      intro k ok hki hk ht
      exact po hc i o k ho hdeps (chk k i ok o hki hk ho ht)
     have some_of : ∀ k,k < all.length → ∃ ok,all[k]?=some ok:=fun k hk=>⟨_,List.getElem?_eq_getElem hk⟩
     -- (F1) a slot that it looks at,or writes,reads as in the text's order
     have low_slot : ∀ t,t∈o.looksAt all.toArray → ∀ k,k≤i→(aP all ps sl0 L k)[t]?=(aP all ps sl0 (fun _=>true) k)[t]?:=by
      intro t ht k
      induction k with
      | zero=>intro _;rfl
      | succ k ihk =>
        intro hk
        have e:=ihk (by omega)
        obtain ⟨ok,hok'⟩:=some_of k (by omega)
        simp only [aP,opAt k ok hok', if_true]
        by_cases hdst:ok.dst=some t
        ·rw [ahead k ok (by omega) hok' (lU hdst (.inl ht)),if_pos rfl]
         have l1:=fA (all:=all) (ps:=ps) (sl0:=sl0) (L:=L) k
         have l2:=fA (all:=all) (ps:=ps) (sl0:=sl0) (L:=fun _=>true) k
         rw [hdst]
         simp [aput,List.getElem?_set,l1,l2]
        ·rw [j9 hdst]
         split
         ·rw [j9 hdst];exact e
         ·exact e
     have high_slot : ∀ t,t∈o.looksAt all.toArray → ∀ d,i + d≤all.length→(aP all ps sl0 L (i + d))[t]?=(aP all ps sl0 L i)[t]?:=by
      intro t ht d
      induction d with
      | zero=>intro _;rfl
      | succ d ihd =>
        intro hk
        have e:=ihd (by omega)
        obtain ⟨ok,hok'⟩:=some_of (i + d) (by omega)
        rw [show i + (d + 1)=(i + d) + 1 by omega]
        simp only [aP,opAt (i + d) ok hok']
        cases hLk:L (i + d) with
        | false=>rw [if_neg (by simp)];exact e
        | true =>
          rw [if_pos rfl]
          have hne:d≠0:=by rintro rfl;simp only [Nat.add_zero] at hLk;rw [hLi] at hLk;cases hLk
          have hdst:ok.dst≠some t:=fun hd=>by
           have:=behind (i + d) ok (by omega) hok' hLk
           rw [rc hd ht] at this;cases this
          rw [j9 hdst];exact e
     have F1 : ∀ t,t∈o.looksAt all.toArray→(aP all ps sl0 L all.length).getD t (.val undef)=(aP all ps sl0 (fun _=>true) i).getD t (.val undef):=by
      intro t ht
      have h1:=high_slot t ht (all.length - i) (by omega)
      rw [show i + (all.length - i)=all.length by omega] at h1
      simp only [List.getD_eq_getElem?_getD,h1,low_slot t ht i (Nat.le_refl _)]
     -- (F2) a name that it asks of,or makes,stands as in the text's order
     have wid : ∀ k,(ps.getD k default).w=true → ∀ x,x∈(ps.getD k default).T.map (·.1)→x∈(ps.getD k default).wids:=fun k hk x hx=>by simp only [PStep.wids,hk,if_true];exact hx
     have low_heap : ∀ x,(x∈(ps.getD i default).rids∨x∈(ps.getD i default).wids) → ∀ k,k≤i→aL ps h0 L k x=aL ps h0 (fun _=>true) k x:=by
      intro x hx k
      induction k with
      | zero=>intro _;rfl
      | succ k ihk =>
        intro hk
        have e:=ihk (by omega)
        obtain ⟨ok,hok'⟩:=some_of k (by omega)
        simp only [aL,Bool.true_and]
        cases hwk:(ps.getD k default).w with
        | false=>simp only [Bool.and_false,Bool.false_eq_true,if_false];exact e
        | true =>
          simp only [Bool.and_true,if_true]
          by_cases hm:x∈(ps.getD k default).T.map (·.1)
          ·rw [ahead k ok (by omega) hok' (jY (wid k hwk x hm) hx),if_pos rfl]
           exact jv hm
          ·rw [cZ hm]
           split
           ·rw [cZ hm];exact e
           ·exact e
     have high_heap : ∀ x,(x∈(ps.getD i default).rids∨x∈(ps.getD i default).wids) → ∀ d,i + d≤all.length→aL ps h0 L (i + d) x=aL ps h0 L i x:=by
      intro x hx d
      induction d with
      | zero=>intro _;rfl
      | succ d ihd =>
        intro hk
        have e:=ihd (by omega)
        obtain ⟨ok,hok'⟩:=some_of (i + d) (by omega)
        rw [show i + (d + 1)=(i + d) + 1 by omega]
        simp only [aL]
        cases hLk:L (i + d) with
        | false=>simp only [Bool.false_and,Bool.false_eq_true,if_false];exact e
        | true =>
          have hne:d≠0:=by rintro rfl;simp only [Nat.add_zero] at hLk;rw [hLi] at hLk;cases hLk
          cases hwk:(ps.getD (i + d) default).w with
          | false=>simp only [Bool.and_false,Bool.false_eq_true,if_false];exact e
          | true =>
            simp only [Bool.and_true,if_true]
            have hm:x ∉ (ps.getD (i + d) default).T.map (·.1):=fun hm=>by
             have:=behind (i + d) ok (by omega) hok' hLk
             rcases hx with hx|hx
             ·rw [sk (wid _ hwk x hm) hx] at this;cases this
             ·rw [jY hx (.inr (wid _ hwk x hm))] at this;cases this
            rw [cZ hm];exact e
     have F2 : ∀ x,(x∈(ps.getD i default).rids∨x∈(ps.getD i default).wids)→aL ps h0 L all.length x=aL ps h0 (fun _=>true) i x:=by
      intro x hx
      have h1:=high_heap x hx (all.length - i) (by omega)
      rw [show i + (all.length - i)=all.length by omega] at h1
      rw [h1]
      exact low_heap x hx i (Nat.le_refl _)
     -- the list with it
     have hL' : (fun j=>(listed.setIfInBounds i true).getD j false)=fun j=>if j=i then true else L j:=by
      funext j
      have hji:i < listed.size:=by omega
      by_cases e:j=i
      ·subst e;simp [Array.getD,hji]
      ·rw [if_neg e, ← hL]
       simp only [Array.getD_eq_getD_getElem?,Array.getElem?_setIfInBounds,if_neg (Ne.symm e)]
     generalize hL2:(fun j=>if j=i then true else L j)=L' at hL'
     have L'i:L' i=true:=by rw [← hL2];simp
     have L'ne : ∀ j,j≠i→L' j=L j:=fun j hj=>by rw [← hL2];simp [hj]
     -- (F3) the slots behind it
     have slow : ∀ k,k≤i→aP all ps sl0 L' k=aP all ps sl0 L k:=by
      intro k
      induction k with
      | zero=>intro _;rfl
      | succ k ihk=>intro hk;simp only [aP,ihk (by omega),L'ne k (by omega)]
     have F3 : ∀ d,i + 1 + d≤all.length→aP all ps sl0 L' (i + 1 + d)=aput (aP all ps sl0 L (i + 1 + d)) o.dst (ps.getD i default).val:=by
      intro d
      induction d with
      | zero =>
        intro _
        simp only [Nat.add_zero,aP,L'i,hLi,if_true,Bool.false_eq_true,if_false,opAt i o ho,slow i (Nat.le_refl _)]
      | succ d ihd =>
        intro hk
        have e:=ihd (by omega)
        obtain ⟨ok,hok'⟩:=some_of (i + 1 + d) (by omega)
        rw [show i + 1 + (d + 1)=(i + 1 + d) + 1 by omega]
        simp only [aP,L'ne (i + 1 + d) (by omega),opAt (i + 1 + d) ok hok', e]
        cases hLk:L (i + 1 + d) with
        | false=>simp
        | true =>
          simp only [if_true]
          -- two different slots
          have hne : ∀ t,o.dst=some t→ok.dst≠some t:=fun t ht hd=>by
           have:=behind (i + 1 + d) ok (by omega) hok' hLk
           rw [lU ht (.inr hd)] at this;cases this
          cases ho1:o.dst with
          | none=>simp [aput]
          | some t =>
            cases ho2:ok.dst with
            | none=>simp [aput]
            | some u =>
              have:t≠u:=fun e=>hne t ho1 (by rw [ho2,e])
              simp only [aput]
              rw [List.set_comm _ _ this]
     have F3' : aP all ps sl0 L' all.length=aput (aP all ps sl0 L all.length) o.dst (ps.getD i default).val:=by
      have:=F3 (all.length - (i + 1)) (by omega)
      rw [show i + 1 + (all.length - (i + 1))=all.length by omega] at this
      exact this
     -- (F4) the names behind it
     have hlow : ∀ k,k≤i→aL ps h0 L' k=aL ps h0 L k:=by
      intro k
      induction k with
      | zero=>intro _;rfl
      | succ k ihk=>intro hk;simp only [aL,ihk (by omega),L'ne k (by omega)]
     have F4 : ∀ d,i + 1 + d≤all.length→aL ps h0 L' (i + 1 + d)=if (ps.getD i default).w then (aL ps h0 L (i + 1 + d)).upds (ps.getD i default).T else aL ps h0 L (i + 1 + d):=by
      intro d
      induction d with
      | zero =>
        intro _
        simp only [Nat.add_zero,aL,L'i,hLi,Bool.true_and,Bool.false_and,Bool.false_eq_true,if_false,hlow i (Nat.le_refl _)]
      | succ d ihd =>
        intro hk
        have e:=ihd (by omega)
        obtain ⟨ok,hok'⟩:=some_of (i + 1 + d) (by omega)
        rw [show i + 1 + (d + 1)=(i + 1 + d) + 1 by omega]
        simp only [aL,L'ne (i + 1 + d) (by omega),e]
        cases hwi:(ps.getD i default).w with
        | false=>simp
        | true =>
          simp only [if_true]
          cases hLk:L (i + 1 + d) with
          | false=>simp
          | true =>
            cases hwk:(ps.getD (i + 1 + d) default).w with
            | false=>simp
            | true =>
              simp only [Bool.and_true,if_true]
              funext x
              by_cases hx:x∈(ps.getD i default).T.map (·.1)
              ·have hm:x ∉ (ps.getD (i + 1 + d) default).T.map (·.1):=fun hm=>by
                have:=behind (i + 1 + d) ok (by omega) hok' hLk
                rw [jY (wid i hwi x hx) (.inr (wid _ hwk x hm))] at this;cases this
               rw [cZ hm]
               exact jv hx
              ·rw [cZ hx]
               by_cases hm:x∈(ps.getD (i + 1 + d) default).T.map (·.1)
               ·exact jv hm
               ·rw [cZ hm,cZ hm,cZ hx]
     have F4' : aL ps h0 L' all.length=if (ps.getD i default).w then (aL ps h0 L all.length).upds (ps.getD i default).T else aL ps h0 L all.length:=by
      have:=F4 (all.length - (i + 1)) (by omega)
      rw [show i + 1 + (all.length - (i + 1))=all.length by omega] at this
      exact this
     -- the operation
     have hclosed:oy all L' := by
      intro k ok hk hLk e he hb
      by_cases hki:k=i
      ·subst hki
       rw [ho] at hk;cases hk
       have h1:=hdeps e he hb
       by_cases hei:e.on=k
       ·rw [hei];exact L'i
       ·rw [L'ne _ hei];exact h1
      ·rw [L'ne k hki] at hLk
       have h1:=hc k ok hk hLk e he hb
       by_cases hei:e.on=i
       ·rw [hei];exact L'i
       ·rw [L'ne _ hei];exact h1
     have hcount:((List.range all.length).filter fun j => !(listed.setIfInBounds i true).getD j false).length=fuel:=by
      have e1:((List.range all.length).filter fun j => !(listed.setIfInBounds i true).getD j false)=((List.range all.length).filter fun j => !listed.getD j false).erase i:=by
       have hnd:((List.range all.length).filter fun j => !listed.getD j false).Nodup:=List.Pairwise.filter _ List.nodup_range
       rw [hnd.erase_eq_filter,List.filter_filter]
       refine List.filter_congr fun j _=>?_
       have h1:(listed.setIfInBounds i true).getD j false=L' j:=congrFun hL' j
       have h2:listed.getD j false=L j:=congrFun hL j
       rw [h1,h2]
       by_cases e:j=i
       ·subst e;rw [L'i];simp
       ·rw [L'ne j e];simp [e]
      rw [e1,List.length_erase_of_mem,hf]
      ·rfl
      ·simp only [List.mem_filter,List.mem_range]
       exact ⟨hil,by simpa using hl⟩
     have go : ∀ (m1:Nm) (w1:World) (v:Value),StR m1 (aP all ps sl0 L' all.length) (aL ps h0 L' all.length) (a.put o.dst v) w1→Ev m0 h0 w0 m1 (aL ps h0 L' all.length) w1 →
      wpAny P .any all.toArray Q fuel (listed.setIfInBounds i true) (a.put o.dst v) w1:=fun m1 w1 v s1 e1=>by
      refine ih (listed.setIfInBounds i true) (a.put o.dst v) w1 m1 (by simpa using hs) hcount ?_ ?_ ?_
      ·rw [hL'];exact hclosed
      ·rw [hL'];exact s1
      ·rw [hL'];exact e1
     have hopR : ∀ x∈o.op.operands,R m (aL ps h0 L all.length) w (ae (aP all ps sl0 (fun _=>true) i) x) (a.eval x):=by
      intro x hx
      have h1:=st.slots.eval x
      cases x with
      | tmp t =>
        have ht:t∈o.looksAt all.toArray:=List.mem_append_left _ (List.mem_filterMap.2 ⟨.tmp t,by simpa using hx,rfl⟩)
        simp only [ae] at h1 ⊢
        rw [F1 t ht] at h1
        exact h1
      | const v=>exact h1
      | global g=>exact h1
      | func f=>exact h1
     have hwant:Region.wanted o (yielded all.toArray a.tmps)=(ps.getD i default).w:=dE hw fun t ht=>by
      have:=st.slots t
      rw [F1 t ht] at this
      exact this
     unfold wpOp
     simp only [List.getElem?_toArray,ho]
     rw [hwant]
     cases hwi:(ps.getD i default).w with
     | true =>
       rw [if_pos rfl]
       left
       obtain ⟨ow,ord⟩:=hop hwi
       refine ow (aL ps h0 L all.length) m w a _ Q (fun q hq=>?_) st.rel hopR fun v m1 w1 r1 e1 R1=>?_
       ·rw [F2 q.1 (.inl (by simp only [PStep.rids,hwi,if_true];exact List.mem_map.2 ⟨q,hq,rfl⟩))]
        exact ord q hq
       ·have sp:=SlotsR.put st.rel e1 st.slots st.len (d:=o.dst) R1
        have ehp:aL ps h0 L' all.length=(aL ps h0 L all.length).upds (ps.getD i default).T:=by rw [F4', hwi];rfl
        have esl:aP all ps sl0 L' all.length=aput (aP all ps sl0 L all.length) o.dst (ps.getD i default).av:=by rw [F3'];simp only [PStep.val,hwi,if_true]
        refine go m1 w1 v ?_ ?_
        ·rw [ehp,esl];exact ⟨r1,sp.1,sp.2,by rw [dz];exact st.defers⟩
        ·rw [ehp];exact ev.trans rel0 e1
     | false =>
       rw [if_neg (by simp)]
       have sp:=SlotsR.put st.rel (Ev.refl m _ w) st.slots st.len (d:=o.dst) (R.val (m:=m) (h:=aL ps h0 L all.length) (w:=w) undef)
       have ehp:aL ps h0 L' all.length=aL ps h0 L all.length:=by rw [F4', hwi];rfl
       have esl:aP all ps sl0 L' all.length=aput (aP all ps sl0 L all.length) o.dst (.val undef):=by rw [F3'];simp only [PStep.val,hwi,Bool.false_eq_true,if_false]
       refine go m w undef ?_ ?_
       ·rw [ehp,esl];exact ⟨st.rel,sp.1,sp.2,by rw [dz];exact st.defers⟩
       ·rw [ehp];exact ev
 have L0:(fun j=>(Array.replicate all.length false).getD j false)=fun _=>false:=by
  funext j
  by_cases hj:j < all.length
  ·simp [Array.getD,hj]
  ·simp [Array.getD,hj]
 have s0 : ∀ n,aP all ps sl0 (fun _=>false) n=sl0:=fun n=>by
  induction n with
  | zero=>rfl
  | succ n ih=>simp only [aP,ih,Bool.false_eq_true,if_false]
 have hp0 : ∀ n,aL ps h0 (fun _=>false) n=h0:=fun n=>by
  induction n with
  | zero=>rfl
  | succ n ih=>simp only [aL,ih,Bool.false_and,Bool.false_eq_true,if_false]
 have evd:Ev m0 h0 w0 m0 h0 wd:=Ev.world hd d1 d2 d3
 refine main all.length (Array.replicate all.length false) a0 wd m0 (by simp) ?_ ?_ ?_ ?_
 ·have:((List.range all.length).filter fun i => !(Array.replicate all.length false).getD i false)=List.range all.length:=by
   refine List.filter_eq_self.2 fun i hi=>?_
   have:(Array.replicate all.length false).getD i false=false:=congrFun L0 i
   rw [this];rfl
  rw [this];simp
 ·rw [L0]
  intro k o hk h
  cases h
 ·rw [L0,s0,hp0]
  exact ⟨rel0.world hd d1 d2 d3,fun t=>(st0.slots t).mono rel0 evd,st0.len,st0.defers⟩
 ·rw [L0,hp0];exact evd
end
structure ASt where
 sl:List AV
 h:List Own
def ofL (l:List Own):Hp:=fun i=>l.getD i .unused
@[go_sem] def setO (l:List Own) (id:Nat) (o:Own):List Own:=if id < l.length then l.set id o else l ++ [o]
@[go_sem] def apT (l:List Own):List (Nat × Own)→List Own
  | []=>l
  | p::T=>apT (setO l p.1 p.2) T
def fitT (l:List Own):List (Nat × Own)→Prop
 | []=>True
 | p::T=>p.1≤l.length∧fitT (setO l p.1 p.2) T
theorem nW {l:List Own} {id:Nat} {o:Own} (h:id≤l.length):ofL (setO l id o)=(ofL l).upd id o:=by
 funext x
 unfold ofL setO Hp.upd
 split
 ·by_cases e:x=id
  ·subst e;simp [List.getD, *]
  ·simp [List.getD,List.getElem?_set_ne (Ne.symm e),e]
 ·have hid:id=l.length:=by omega
  subst hid
  by_cases e:x=l.length
  ·subst e;simp [List.getD]
  ·simp only [List.getD_eq_getElem?_getD,if_neg e]
   by_cases hx:x < l.length
   ·rw [List.getElem?_append_left hx]
   ·rw [List.getElem?_append_right (by omega),List.getElem?_eq_none (by simp;omega),List.getElem?_eq_none (by omega)]
theorem lS : ∀ {T:List (Nat × Own)} {l:List Own}, fitT l T→ofL (apT l T)=(ofL l).upds T
 | [],_,_=>rfl
 | p::T,l,h=>by
   show ofL (apT (setO l p.1 p.2) T)=((ofL l).upd p.1 p.2).upds T
   rw [lS h.2,nW h.1]
theorem eG (l:List Own):ofL l l.length = .unused:=by simp [ofL,List.getD]
theorem fM {l:List Own} {b:Nat} {k:Blk} (h:ofL l b = .live k):b < l.length:=by
 rcases Nat.lt_or_ge b l.length with h' | h'
 ·exact h'
 ·simp [ofL,List.getD,List.getElem?_eq_none h'] at h
theorem nc {l:List Own} {b:Nat} {o:Own} (h:b < l.length):(setO l b o).length=l.length:=by simp [setO,h]
section
variable {P:Program}
theorem fK {look:Nat→Own} {x:AV} {rd:List (Nat × Own)} (h:alive look x=some rd) : ∀ q∈rd,look q.1=q.2:=by
 cases x<;>simp only [alive] at h
 case ptr=>split at h<;>cases h;rename_i hk;simp [hk]
 case lptr=>split at h<;>cases h<;>(rename_i hk;simp [hk])
 case sl=>split at h<;>cases h;rename_i hk;simp [hk]
 case list=>split at h<;>cases h<;>(rename_i hk;simp [hk])
 case glist=>split at h<;>cases h<;>(rename_i hk;simp [hk])
 all_goals (cases h;simp)
def iw (mx:Bool):AV→List AV→Option AV
 | x,[]=>match x with
   | .val (.int k a)=>some (.val (.int k a))
   | _=>none
 | x,y::rest=>match x,y with
   | .val (.int k a),.val (.int k' b)=>if k=k' then (match mx with|true=>iw mx (.val (.int k (max a b))) rest|false=>iw mx (.val (.int k (min a b))) rest) else none
   | _,_=>none
def amm (mx:Bool):List AV→Option AV
 | []=>none
 | x::xs=>iw mx x xs
@[go_sem] def aop (P:Program) (o:Oper) (sl:List AV) (h:List Own):Option Res :=
  match o.op with
  | .move x=>some ⟨ae sl x,[],[]⟩
  | .assign x=>some ⟨ae sl x,[],[]⟩
  | .pick c a b=>(apick (ae sl c) (ae sl a) (ae sl b)).map fun v=>⟨v,[],[]⟩
  | .binOp op _ x y _=>match ae sl x,ae sl y with
    | .val u,.val v=>(abin op u v).map fun r=>⟨.val r,[],[]⟩
    | _,_=>none
  | .unOp op _ x=>match ae sl x with
    | .val u=>(aun op u).map fun r=>⟨.val r,[],[]⟩
    | _=>none
  | .convert s d x=>(aconv P s d (ae sl x)).map fun v=>⟨v,[],[]⟩
  | .nilCheck x=>(anil (ae sl x)).bind fun v=>(alive (ofL h) (ae sl x)).map fun rd=>⟨v,rd,[]⟩
  | .field t x f=>(afield P t f (ae sl x)).map fun v=>⟨v,[],[]⟩
  | .extract x i=>(aextract (ae sl x) i).map fun v=>⟨v,[],[]⟩
  | .fieldAddr t x f=>(afaddr P t f (ae sl x)).bind fun v=>(alive (ofL h) (ae sl x)).map fun rd=>⟨v,rd,[]⟩
  | .indexAddr t x y=>match ae sl y with
    | .val (.int _ n)=>(aindex P t (ae sl x) n (ofL h)).bind fun v=>(alive (ofL h) (ae sl x)).map fun rd=>⟨v,rd,[]⟩
    | _=>none
  | .slice t x lo hi mx=>(abnd sl lo).bind fun l=>(abnd sl hi).bind fun hh=>(abnd sl mx).bind fun mm=>(aslice P t (ae sl x) l hh mm (ofL h)).bind fun v=>(alive (ofL h) (ae sl x)).map fun rd=>⟨v,rd,[]⟩
  | .load t x=>aload P t (ae sl x) (ofL h)
  | .store t x y=>astore P t (ae sl x) (ae sl y) (ofL h)
  | .alloc t=>aalloc P t h.length
  | .box t x=>abox t (ae sl x) h.length
  | .build t parts=>(abuild P t (parts.toList.map fun p=>(p.1,ae sl p.2))).map fun v=>⟨v,[],[]⟩
  | .buildSlice t n parts=>abslice P t n (parts.toList.map fun p=>(p.1,ae sl p.2)) h.length
  | .makeSlice t x y=>match ae sl x,ae sl y with
    | .val (.int _ l),.val (.int _ l')=>if l=l' then amake P t l h.length else none
    | _,_=>none
  | .makeFunc (.func f) first caps=>if first.toList.length=0 then some ⟨.clo f (caps.toList.map (ae sl)),[],[]⟩ else none
  | .call c=>match c.callee,c.args.toList,c.argTypes.toList with
    | .builtin .len,[x],[t]=>match bw P t with
      | some _=>(alen (ae sl x)).bind fun n=>(alive (ofL h) (ae sl x)).map fun rd=>⟨.val (.int .i64 n),rd,[]⟩
      | none=>none
    | .builtin .append,[x,y],[t,t']=>if t=t' then (alive (ofL h) (ae sl y)).bind fun rd=>aapp P t (ae sl x) (ae sl y) (ofL h) h.length rd else none
    | .builtin .min,xs,_=>(amm false (xs.map (ae sl))).map fun v=>⟨v,[],[]⟩
    | .builtin .max,xs,_=>(amm true (xs.map (ae sl))).map fun v=>⟨v,[],[]⟩
    | _,_,_=>none
  | _=>none
theorem rx {m:Nm} {h:Hp} {w:World} (mx:Bool) : ∀ (l:List AV) (x r:AV) (u:Value) (vs:List Value),iw mx x l=some r→R m h w x u→l.length=vs.length→(∀ (i:Nat) (c:AV) (v:Value),l[i]?=some c→vs[i]?=some v→R m h w c v) →
 ∃ v,(vs.foldlM (if mx then Builtin.max2 else Builtin.min2) u).run P w = .ok v w∧R m h w r v:=by
 intro l
 induction l with
 | nil =>
   intro x r u vs hr hu hl _
   have:vs=[]:=List.eq_nil_of_length_eq_zero hl.symm
   subst this
   unfold iw at hr
   split at hr
   ·cases hr;exact ⟨u,by simp,hu⟩
   ·cases hr
 | cons y l ih =>
   intro x r u vs hr hu hl hR
   match vs,hl with
   | v::vs,hl =>
     have hv:=hR 0 y v rfl rfl
     have go : ∀ (k k' : IntKind) (a b:Int) (z:Int),x = .val (.int k a)→y = .val (.int k' b)→z=(if mx then max a b else min a b)→k=k' → iw mx (.val (.int k z)) l=some r →
      ∃ v', ((v::vs).foldlM (if mx then Builtin.max2 else Builtin.min2) u).run P w = .ok v' w∧R m h w r v' := by
      rintro k k' a b z rfl rfl rfl rfl hr
      have e1:=hu.val_inv
      have e2:=hv.val_inv
      subst e1 e2
      obtain ⟨v', h1,h2⟩:=ih _ r (.int k (if mx then max a b else min a b)) vs hr (.val _) (by simpa using hl) (fun i c v hc hv=>hR (i + 1) c v (by simpa using hc) (by simpa using hv))
      refine ⟨v', ?_,h2⟩
      rw [← h1,List.foldlM_cons]
      cases mx
      ·have:(if b < a then b else a)=min a b:=by rw [Int.min_def];split<;>split<;>omega
       simp [Builtin.min2,this]
      ·have:(if a < b then b else a)=max a b:=by rw [Int.max_def];split<;>split<;>omega
       simp [Builtin.max2,this]
     unfold iw at hr
     split at hr
     ·rename_i k a k' b
      split at hr
      ·rename_i hk
       cases mx with
       | true=>exact go _ _ _ _ _ rfl rfl rfl hk hr
       | false=>exact go _ _ _ _ _ rfl rfl rfl hk hr
      ·cases hr
     ·cases hr
theorem pJ {m:Nm} {h:Hp} {w:World} (mx:Bool) (l:List AV) (vs:List Value) (r:AV) (hr:amm mx l=some r) (hl:l.length=vs.length) (hR : ∀ (i:Nat) (c:AV) (v:Value),l[i]?=some c→vs[i]?=some v→R m h w c v) :
 ∃ v, (match vs with | [] => (stuck "" : Sem Value) | x :: rest => rest.foldlM (if mx then Builtin.max2 else Builtin.min2) x).run P w = .ok v w ∧ R m h w r v := by
 match l,vs,hl with
 | [],_,_=>cases hr
 | x::l,v::vs,hl=>exact rx mx l x r v vs hr (hR 0 x v rfl rfl) (by simpa using hl) (fun i c v hc hv=>hR (i + 1) c v (by simpa using hc) (by simpa using hv))
def Fits (h:List Own) (r:Res):Prop:=(∀ q∈r.rd,ofL h q.1=q.2)∧fitT h r.T
theorem bJ {h:List Own} {av:AV} : Fits h ⟨av,[],[]⟩:=⟨by simp,trivial⟩
theorem gP {h:List Own} {av:AV} {x:AV} {rd:List (Nat × Own)} (hl:alive (ofL h) x=some rd):Fits h ⟨av,rd,[]⟩:=⟨fK hl,trivial⟩
theorem sF {t:TypeId} {x:AV} {h:List Own} {r:Res} (hr:aload P t x (ofL h)=some r):Fits h r:=by
 unfold aload at hr
 split at hr
 ·split at hr
  ·split at hr
   ·rename_i hk
    split at hr
    ·simp only [Option.map_eq_some_iff] at hr
     obtain ⟨_,_,rfl⟩:=hr
     exact ⟨by simp [hk],trivial⟩
    ·cases hr
   ·cases hr
  ·split at hr
   ·rename_i hk
    simp only [Option.map_eq_some_iff] at hr
    obtain ⟨_,_,rfl⟩:=hr
    exact ⟨by simp [hk],trivial⟩
   ·rename_i hk
    simp only [Option.map_eq_some_iff] at hr
    obtain ⟨_,_,rfl⟩:=hr
    exact ⟨by simp [hk],trivial⟩
   ·cases hr
  ·cases hr
 ·cases hr
theorem qp {t:TypeId} {x y:AV} {h:List Own} {r:Res} (hr:astore P t x y (ofL h)=some r):Fits h r:=by
 unfold astore at hr
 split at hr
 ·split at hr
  ·rename_i hk
   split at hr
   ·split at hr
    ·cases hr
     exact ⟨by simp [hk],⟨Nat.le_of_lt (fM hk),trivial⟩⟩
    ·cases hr
   ·cases hr
  ·cases hr
 ·cases hr
theorem o4 {t:TypeId} {x y:AV} {h:List Own} {r:Res} {rd:List (Nat × Own)} (hl:alive (ofL h) y=some rd) (hr:aappend P t x y (ofL h) h.length rd=some r):Fits h r:=by
 unfold aappend at hr
 split at hr
 ·split at hr
  ·split at hr
   ·split at hr
    ·split at hr
     ·cases hr
      refine ⟨fun q hq=>?_,⟨Nat.le_refl _,trivial⟩⟩
      rcases List.mem_cons.1 hq with rfl|hq
      ·exact eG h
      ·exact fK hl q hq
     ·cases hr
    ·split at hr
     ·rename_i hk
      split at hr
      ·cases hr
       have hlt:=fM hk
       refine ⟨fun q hq=>?_,⟨Nat.le_of_lt hlt,?_,trivial⟩⟩
       ·rcases List.mem_cons.1 hq with rfl|hq
        ·exact hk
        ·rcases List.mem_cons.1 hq with rfl|hq
         ·exact eG h
         ·exact fK hl q hq
       ·rw [nc hlt];exact Nat.le_refl _
      ·cases hr
     ·cases hr
    ·cases hr
   ·cases hr
  ·cases hr
 ·cases hr
theorem uv {t:TypeId} {x y:AV} {h:List Own} {r:Res} {rd:List (Nat × Own)} (hl:alive (ofL h) y=some rd) (hr:aapp P t x y (ofL h) h.length rd=some r):Fits h r:=by
 unfold aapp at hr
 split at hr
 ·rename_i q sz0 rows0
  unfold agrow at hr
  repeat' (split at hr)
  all_goals (try (simp at hr;done))
  all_goals (try (rename_i hne _ _ _;exact (hne _ _ _ rfl).elim))
  rename_i he _ hk _
  injection he with e1 e2 e3
  subst e1 e2 e3
  cases hr
  have hlt : ∀ {b}, ofL h b = .uniq→b < h.length:=fun {b} e=>by
   rcases Nat.lt_or_ge b h.length with h1|h1
   ·exact h1
   ·simp [ofL,List.getD,List.getElem?_eq_none h1] at e
  have hlt:=hlt hk
  refine ⟨fun x hx=>?_,⟨Nat.le_of_lt (by assumption),?_,trivial⟩⟩
  ·rcases List.mem_cons.1 hx with rfl|hq
   ·exact hk
   ·rcases List.mem_cons.1 hq with rfl|hq
    ·exact eG h
    ·exact fK hl _ hq
  ·rw [nc (by assumption)];exact Nat.le_refl _
 ·exact o4 hl hr
theorem xw {o:Oper} {sl:List AV} {h:List Own} {r:Res} (hr:aop P o sl h=some r):OpL P o sl r∧Fits h r:=by
 unfold aop at hr
 split at hr
 case h_1 x ho=>cases hr;exact ⟨mh (.inl ho),bJ⟩
 case h_2 x ho=>cases hr;exact ⟨mh (.inr ho),bJ⟩
 case h_3 c a b ho =>
  simp only [Option.map_eq_some_iff] at hr
  obtain ⟨v,hv,rfl⟩:=hr
  exact ⟨uS ho hv,bJ⟩
 case h_4 op t x y u ho =>
  split at hr
  ·rename_i v1 v2 h1 h2
   simp only [Option.map_eq_some_iff] at hr
   obtain ⟨v,hv,rfl⟩:=hr
   exact ⟨wE ho h1 h2 hv,bJ⟩
  ·cases hr
 case h_5 op t x ho =>
  split at hr
  ·rename_i v1 h1
   simp only [Option.map_eq_some_iff] at hr
   obtain ⟨v,hv,rfl⟩:=hr
   exact ⟨xE ho h1 hv,bJ⟩
  ·cases hr
 case h_6 s d x ho =>
  simp only [Option.map_eq_some_iff] at hr
  obtain ⟨v,hv,rfl⟩:=hr
  exact ⟨uu ho hv,bJ⟩
 case h_7 x ho =>
  simp only [Option.bind_eq_some_iff,Option.map_eq_some_iff] at hr
  obtain ⟨v,hv,rd,hrd,rfl⟩:=hr
  exact ⟨wb ho hv hrd,gP hrd⟩
 case h_8 t x f ho =>
  simp only [Option.map_eq_some_iff] at hr
  obtain ⟨v,hv,rfl⟩:=hr
  exact ⟨rR ho hv,bJ⟩
 case h_9 x i ho =>
  simp only [Option.map_eq_some_iff] at hr
  obtain ⟨v,hv,rfl⟩:=hr
  exact ⟨oE ho hv,bJ⟩
 case h_10 t x f ho =>
  simp only [Option.bind_eq_some_iff,Option.map_eq_some_iff] at hr
  obtain ⟨v,hv,rd,hrd,rfl⟩:=hr
  exact ⟨sj ho hv hrd,gP hrd⟩
 case h_11 t x y ho =>
  split at hr
  ·rename_i k n hy
   simp only [Option.bind_eq_some_iff,Option.map_eq_some_iff] at hr
   obtain ⟨v,hv,rd,hrd,rfl⟩:=hr
   exact ⟨rQ ho hy hv hrd,gP hrd⟩
  ·cases hr
 case h_12 t x lo hi mx ho =>
  simp only [Option.bind_eq_some_iff,Option.map_eq_some_iff] at hr
  obtain ⟨l,hl,hh,hhh,mm,hmm,v,hv,rd,hrd,rfl⟩:=hr
  exact ⟨rU ho hl hhh hmm hv hrd,gP hrd⟩
 case h_13 t x ho=>exact ⟨ov ho hr,sF hr⟩
 case h_14 t x y ho=>exact ⟨sM ho hr,qp hr⟩
 case h_15 t ho =>
  refine ⟨sZ ho hr,?_⟩
  simp only [aalloc,Option.map_eq_some_iff] at hr
  obtain ⟨z,hz,rfl⟩:=hr
  exact ⟨by simp [eG],⟨Nat.le_refl _,trivial⟩⟩
 case h_16 t x ho =>
  refine ⟨wX ho hr,?_⟩
  unfold abox at hr
  split at hr
  ·cases hr;exact ⟨by simp [eG],⟨Nat.le_refl _,trivial⟩⟩
  ·cases hr
 case h_17 t parts ho =>
  simp only [Option.map_eq_some_iff] at hr
  obtain ⟨v,hv,rfl⟩:=hr
  exact ⟨sy ho hv,bJ⟩
 case h_18 t n parts ho =>
  refine ⟨q6 ho hr,?_⟩
  unfold abslice at hr
  split at hr
  ·split at hr
   ·split at hr
    ·simp only [eI,Option.map_eq_some_iff] at hr
     obtain ⟨flat,hflat,rfl⟩:=hr
     exact ⟨by simp [eG],⟨Nat.le_refl _,trivial⟩⟩
    ·cases hr
   ·cases hr
  ·cases hr
 case h_19 t x y ho =>
  split at hr
  ·rename_i k l k' l' h1 h2
   split at hr
   ·rename_i he
    subst he
    refine ⟨tF ho h1 h2 hr,?_⟩
    unfold amake at hr
    split at hr
    ·split at hr
     ·split at hr
      ·cases hr;exact ⟨by simp [eG],⟨Nat.le_refl _,trivial⟩⟩
      ·cases hr
     ·cases hr
    ·cases hr
   ·cases hr
  ·cases hr
 case h_20 f first caps ho =>
  split at hr
  ·rename_i hf
   cases hr
   have:first = #[]:=by
    have:first.toList=[]:=List.eq_nil_of_length_eq_zero hf
    simpa using this
   subst this
   exact ⟨wJ ho,bJ⟩
  ·cases hr
 case h_21 c ho =>
  obtain ⟨callee,args,argTypes⟩:=c
  have ea:args=args.toList.toArray:=by simp
  have et:argTypes=argTypes.toList.toArray:=by simp
  simp only at hr
  split at hr
  ·rename_i x t hargs htys
   rw [hargs] at ea
   rw [htys] at et
   subst ea et
   split at hr
   ·rename_i e he
    simp only [Option.bind_eq_some_iff,Option.map_eq_some_iff] at hr
    obtain ⟨n,hn,rd,hrd,rfl⟩:=hr
    exact ⟨wA ho he hn hrd,gP hrd⟩
   ·cases hr
  ·rename_i x y t t' hargs htys
   rw [hargs] at ea
   rw [htys] at et
   subst ea et
   split at hr
   ·rename_i he
    subst he
    simp only [Option.bind_eq_some_iff] at hr
    obtain ⟨rd,hrd,hr⟩:=hr
    exact ⟨wK ho hrd hr,uv hrd hr⟩
   ·cases hr
  ·simp only [Option.map_eq_some_iff] at hr
   obtain ⟨v,hv,rfl⟩:=hr
   refine ⟨OpL.pure fun m hh w a rel hop=>?_,bJ⟩
   obtain ⟨u,h1,h2⟩:=pJ (m:=m) (h:=hh) (w:=w) false (args.toList.map (ae sl)) (args.toList.map a.eval) v hv (by simp) (fun i c v hc hv=>by
    simp only [List.getElem?_map,Option.map_eq_some_iff] at hc hv
    obtain ⟨x,hx,rfl⟩:=hc
    obtain ⟨y,hy,rfl⟩:=hv
    rw [hx] at hy
    cases hy
    exact hop x (by simp only [ho,Op.operands,Call.operands];simp;exact Array.mem_of_getElem? (by simpa using hx)))
   refine ⟨u,?_,h2⟩
   have:(Builtin.min_ argTypes o.type (args.map a.eval)).run P w = .ok u w:=by
    unfold Builtin.min_
    have e:(args.map a.eval).toList=args.toList.map a.eval:=by simp
    rw [e]
    cases hl:args.toList.map a.eval with
    | nil=>rw [hl] at h1;simp at h1
    | cons x rest=>rw [hl] at h1;simpa using h1
   simp [execOp,ho,resolve,invoke,builtin,this]
  ·simp only [Option.map_eq_some_iff] at hr
   obtain ⟨v,hv,rfl⟩:=hr
   refine ⟨OpL.pure fun m hh w a rel hop=>?_,bJ⟩
   obtain ⟨u,h1,h2⟩:=pJ (m:=m) (h:=hh) (w:=w) true (args.toList.map (ae sl)) (args.toList.map a.eval) v hv (by simp) (fun i c v hc hv=>by
    simp only [List.getElem?_map,Option.map_eq_some_iff] at hc hv
    obtain ⟨x,hx,rfl⟩:=hc
    obtain ⟨y,hy,rfl⟩:=hv
    rw [hx] at hy
    cases hy
    exact hop x (by simp only [ho,Op.operands,Call.operands];simp;exact Array.mem_of_getElem? (by simpa using hx)))
   refine ⟨u,?_,h2⟩
   have:(Builtin.max_ argTypes o.type (args.map a.eval)).run P w = .ok u w:=by
    unfold Builtin.max_
    have e:(args.map a.eval).toList=args.toList.map a.eval:=by simp
    rw [e]
    cases hl:args.toList.map a.eval with
    | nil=>rw [hl] at h1;simp at h1
    | cons x rest=>rw [hl] at h1;simpa using h1
   simp [execOp,ho,resolve,invoke,builtin,this]
  ·cases hr
 case h_22=>cases hr
end
def RL (m:Nm) (h:Hp) (w:World) (cs:List AV) (vs:Array Value):Prop:=cs.length=vs.size ∧ ∀ (i:Nat) (c:AV) (v:Value),cs[i]?=some c→vs[i]?=some v→R m h w c v
def cn (P:Program) (f:FuncId):Prop := ∀ args w,(callFunc f args).run P w = .ok (.enter f args) w
def ACall (P:Program) (f:FuncId) (args:List AV) (rd T:List (Nat × Own)) (res:AV):Prop :=
 cn P f ∧ ∀ (h:Hp) (m:Nm) (w:World) (vs:Array Value),(∀ p∈rd,h p.1=p.2)→Rel m h w→RL m h w args vs →
  Calls P f vs w fun e w' => ∃ v m', e = .returned v∧Rel m' (h.upds T) w' ∧ Ev m h w m' (h.upds T) w' ∧ R m' (h.upds T) w' res v
@[go_sem] def callOf (sl:List AV) (o:Oper):Option (FuncId × List AV) :=
  match o.op with
  | .call c=>match c.callee with
    | .value (.func f)=>some (f,c.args.toList.map (ae sl))
    | .value (.tmp t)=>match sl.getD t (.val undef) with
      | .clo f caps=>some (f,c.args.toList.map (ae sl) ++ caps)
      | _=>none
    | _=>none
  | _=>none
section
variable {P:Program}
theorem sY {o:Oper} {sl:List AV} {f:FuncId} {args:List AV} (hc:callOf sl o=some (f,args)) {rd T:List (Nat × Own)} {res:AV} (H:ACall P f args rd T res):OpW P o sl rd T res:=by
 intro h m w a K Q hrd rel hop hK
 unfold callOf at hc
 split at hc
 case h_2=>cases hc
 rename_i c ho
 have fin : ∀ vs,(execOp a.eval o).run P w = .ok (.enter f vs) w→RL m h w args vs→o.wp P a w K Q:=by
  intro vs hrun hl
  unfold Oper.wp
  rw [hrun]
  refine (H.2 h m w vs hrd rel hl).mono ?_
  rintro e w' ⟨v,m', rfl,h1,h2,h3⟩
  exact hK v m' w' h1 h2 h3
 have hcall : ∀ args w,(callFunc f args).run P w = .ok (.enter f args) w:=H.1
 have margs : ∀ (x:Operand),x∈c.args.toList→R m h w (ae sl x) (a.eval x):=fun x hx=>hop x (by simp only [ho,Op.operands,Call.operands];simp;exact .inr (by simpa using hx))
 split at hc
 ·rename_i f' hf
  cases hc
  refine fin (c.args.map a.eval) ?_ ⟨by simp,fun i cc v h1 h2=>?_⟩
  ·simp [execOp,ho,resolve,hf,Act.eval,Deferred.ofValue,invoke,hcall]
  ·simp only [List.getElem?_map,Option.map_eq_some_iff,Array.getElem?_map] at h1 h2
   obtain ⟨x,hx,rfl⟩:=h1
   obtain ⟨y,hy,rfl⟩:=h2
   have hx' : c.args[i]?=some x:=by simpa using hx
   rw [hx'] at hy
   cases hy
   exact margs x (List.mem_of_getElem? hx)
 ·rename_i t hf
  split at hc
  ·rename_i f' caps hclo
   cases hc
   have hR:R m h w (.clo f caps) (a.eval (.tmp t)):=by
    have:=hop (.tmp t) (by simp only [ho,Op.operands,Call.operands,hf];simp)
    simp only [ae,hclo] at this
    exact this
   generalize hev:a.eval (.tmp t)=v at hR
   cases hR with
   | clo _ _ vs hl hcc =>
     refine fin (c.args.map a.eval ++ vs) ?_ ⟨by simp [hl],fun i cc v h1 h2=>?_⟩
     ·simp [execOp,ho,resolve,hf,hev,Deferred.ofValue,invoke,hcall]
     ·by_cases hi:i < c.args.toList.length
      ·rw [List.getElem?_append_left (by simpa using hi)] at h1
       rw [Array.getElem?_append_left (by simpa using hi)] at h2
       simp only [List.getElem?_map,Option.map_eq_some_iff,Array.getElem?_map] at h1 h2
       obtain ⟨x,hx,rfl⟩:=h1
       obtain ⟨y,hy,rfl⟩:=h2
       have hx' : c.args[i]?=some x:=by simpa using hx
       rw [hx'] at hy
       cases hy
       exact margs x (List.mem_of_getElem? hx)
      ·rw [List.getElem?_append_right (by simpa using hi)] at h1
       rw [Array.getElem?_append_right (by simpa using hi)] at h2
       simp only [List.length_map,Array.size_map,Array.length_toList] at h1 h2
       exact hcc _ cc v h1 h2
  ·cases hc
 ·cases hc
noncomputable def hold {α:Type} (x:α):α:=(Classical.choice (⟨⟨x,rfl⟩⟩:Nonempty { y:α // y=x })).1
@[go_sem] theorem hold_eq {α:Type} (x:α):hold x=x:=(Classical.choice (⟨⟨x,rfl⟩⟩:Nonempty { y:α // y=x })).2
def aif (b:Bool) (A B:Prop):Prop:=(b=true→A)∧(b=false→B)
@[go_sem] theorem aif_true (A B:Prop):aif true A B=A:=by simp [aif]
@[go_sem] theorem aif_false (A B:Prop):aif false A B=B:=by simp [aif]
@[congr] theorem aif_congr {b b' : Bool} (h:b=b') (A B:Prop):aif b A B=aif b' A B:=by rw [h]
theorem xY {b:Bool} {A B:Prop} (h1:b=true→A) (h2:b=false→B):aif b A B:=⟨h1,h2⟩
def gN {α:Type} (x:Option α) (K:α→Prop):Prop:=match x with|some a=>K a|none=>False
@[go_sem] theorem onSome_some {α:Type} (a:α) (K:α→Prop):gN (some a) K=K a:=rfl
@[go_sem] theorem onSome_none {α:Type} (K:α→Prop):gN none K=False:=rfl
@[congr] theorem onSome_congr {α:Type} {x x' : Option α} (h:x=x') (K:α→Prop):gN x K=gN x' K:=by rw [h]
def fp {α:Type} (x:Option α) (K:α→Prop) (N:Prop):Prop:=match x with|some a=>K a|none=>N
@[go_sem] theorem onCase_some {α:Type} (a:α) (K:α→Prop) (N:Prop):fp (some a) K N=K a:=rfl
@[go_sem] theorem onCase_none {α:Type} (K:α→Prop) (N:Prop):fp none K N=N:=rfl
@[congr] theorem onCase_congr {α:Type} {x x' : Option α} (h:x=x') (K:α→Prop) (N:Prop):fp x K N=fp x' K N:=by rw [h]
def fo (x:AV) (A B:Prop):Prop:=match x with | .val (.bool b)=>aif b A B|_=>False
@[go_sem] theorem onBool_bool (b:Bool) (A B:Prop):fo (.val (.bool b)) A B=aif (hold b) A B:=by rw [hold_eq];rfl
@[congr] theorem onBool_congr {x x' : AV} (h:x=x') (A B:Prop):fo x A B=fo x' A B:=by rw [h]
def jt (P:Program) (f:FuncId) (args:List AV) (h:List Own) (K:AV→List Nat→List Nat→List Own→Prop):Prop :=
 ∃ rd T res,ACall P f args rd T res∧Fits h ⟨res,rd,T⟩∧K res (rd.map (·.1)) (T.map (·.1)) (apT h T)
@[congr] theorem ACallAt_congr {P:Program} {f:FuncId} {args args' : List AV} {h h' : List Own} (h1:args=args') (h2:h=h') (K:AV→List Nat→List Nat→List Own→Prop):jt P f args h K=jt P f args' h' K:=by rw [h1,h2]
def qH (P:Program) (o:Oper) (sl:List AV) (h:List Own) (K:AV→List Nat→List Nat→List Own→Prop):Prop :=
 ∃ rd T res,OpW P o sl rd T res∧Fits h ⟨res,rd,T⟩∧K res (rd.map (·.1)) (T.map (·.1)) (apT h T)
def fv (P:Program) (o:Oper) (sl:List AV) (h:List Own) (K:AV→List Nat→List Nat→List Own→Prop):Prop :=
 fp (hold (callOf sl o)) (fun fa=>jt P fa.1 (hold fa.2) h K) (fp (hold (aop P o sl h)) (fun r=>K r.av (r.rd.map (·.1)) (r.T.map (·.1)) (apT h r.T)) (qH P o sl h K))
def bX (P:Program) (all:List Oper) (K:List (List Nat × List Nat)→ASt→Prop):List Oper→List (List Nat × List Nat)→List AV→List Own→Prop
 | [],acc,sl,h=>K acc.reverse ⟨sl,h⟩
 | o::rest,acc,sl,h=>gN (hold (awanted all o sl)) fun b =>
  aif (hold b) (fv P o sl h fun av rd wr h' => bX P all K rest ((rd,wr)::acc) (aput sl o.dst av) h') (bX P all K rest (([],[])::acc) (aput sl o.dst (.val undef)) h)
@[go_sem ↓] theorem awpOps_nil (P all K acc sl h):bX P all K [] acc sl h=K acc.reverse ⟨sl,h⟩:=rfl
@[go_sem ↓] theorem awpOps_cons (P all K o rest acc sl h):bX P all K (o::rest) acc sl h=gN (hold (awanted all o sl)) fun b =>
 aif (hold b) (fv P o sl h fun av rd wr h' => bX P all K rest ((rd,wr)::acc) (aput sl o.dst av) h') (bX P all K rest (([],[])::acc) (aput sl o.dst (.val undef)) h):=rfl
@[go_sem ↓] theorem aoper_eq (P o sl h K):fv P o sl h K=fp (hold (callOf sl o)) (fun fa=>jt P fa.1 (hold fa.2) h K) (fp (hold (aop P o sl h)) (fun r=>K r.av (r.rd.map (·.1)) (r.T.map (·.1)) (apT h r.T)) (qH P o sl h K)):=rfl
@[congr] theorem awpOps_congr {P all K ops acc} {sl sl' : List AV} {h h' : List Own} (h1:sl=sl') (h2:h=h'):bX P all K ops acc sl h=bX P all K ops acc sl' h' := by rw [h1,h2]
@[congr] theorem aoper_congr {P o K} {sl sl' : List AV} {h h' : List Own} (h1:sl=sl') (h2:h=h'):fv P o sl h K=fv P o sl' h' K:=by rw [h1,h2]
inductive AExit where
 | normal
 | exit (id:Nat)
 | goto (l:Nat)
 | ret
@[go_sem] def AExit.conc:AExit→Exit
  | .normal => .normal
  | .exit id => .exit id
  | .goto l => .goto l
  | .ret => .ret
structure Base where
 m:Nm
 h:Hp
 w:World
 rel:Rel m h w
def Base.ev (B:Base) (m:Nm) (h:Hp) (w:World):Prop:=Ev B.m B.h B.w m h w
def AW (P:Program) (B:Base) (c:Code) (Q:AExit→ASt→Prop) (st:ASt):Prop :=
 ∀ (m:Nm) (w:World) (a:Act),StR m st.sl (ofL st.h) a w→B.ev m (ofL st.h) w→c.wp P (fun e a' w' => ∃ e' st' m', e=e'.conc∧Q e' st' ∧ StR m' st'.sl (ofL st'.h) a' w' ∧ B.ev m' (ofL st'.h) w') a w
def il (next:ASt→Prop) (Q:AExit→ASt→Prop):AExit→ASt→Prop
 | .normal,st=>next st
 | e,st=>Q e st
def fJ (id:Nat) (Q:AExit→ASt→Prop):AExit→ASt→Prop
 | .exit id', st=>if id' = id then Q .normal st else Q (.exit id') st
 | e,st=>Q e st
@[go_sem ↓] theorem aThen_normal (n Q st):il n Q .normal st=n st:=rfl
@[go_sem ↓] theorem aThen_exit (n Q st id):il n Q (.exit id) st=Q (.exit id) st:=rfl
@[go_sem ↓] theorem aThen_goto (n Q st id):il n Q (.goto id) st=Q (.goto id) st:=rfl
@[go_sem ↓] theorem aThen_ret (n Q st):il n Q .ret st=Q .ret st:=rfl
@[go_sem ↓] theorem aBlock_normal (id Q st):fJ id Q .normal st=Q .normal st:=rfl
@[go_sem ↓] theorem aBlock_exit (id Q st id'):fJ id Q (.exit id') st=if id' = id then Q .normal st else Q (.exit id') st:=rfl
@[go_sem ↓] theorem aBlock_goto (id Q st l):fJ id Q (.goto l) st=Q (.goto l) st:=rfl
@[go_sem ↓] theorem aBlock_ret (id Q st):fJ id Q .ret st=Q .ret st:=rfl
def awp (P:Program) (B:Base):Code→(AExit→ASt→Prop)→List AV→List Own→Prop
 | .skip,Q,sl,h=>Q .normal ⟨sl,h⟩
 | .label _,Q,sl,h=>Q .normal ⟨sl,h⟩
 | .region _ ops draw,Q,sl,h=>bX P ops.toList (fun ids st' => (draw=true→eV ops.toList ids=true)∧Q .normal st') ops.toList [] sl h
 | .seq a b,Q,sl,h=>awp P B a (il (fun st=>awp P B b Q st.sl st.h) Q) sl h
 | .cond c x y,Q,sl,h=>fo (hold (ae sl c)) (awp P B x Q sl h) (awp P B y Q sl h)
 | .block id body,Q,sl,h=>awp P B body (fJ id Q) sl h
 | .loop body,Q,sl,h=>AW P B (.loop body) Q ⟨sl,h⟩
 | .exit id,Q,sl,h=>Q (.exit id) ⟨sl,h⟩
 | .scope body,Q,sl,h=>AW P B (.scope body) Q ⟨sl,h⟩
 | .goto l,Q,sl,h=>Q (.goto l) ⟨sl,h⟩
 | .ret,Q,sl,h=>Q .ret ⟨sl,h⟩
 | .rangeFunc .., _,_,_=>False
 | .refuse _,_,_,_=>False
@[congr] theorem awp_congr {P B c Q} {sl sl' : List AV} {h h' : List Own} (h1:sl=sl') (h2:h=h'):awp P B c Q sl h=awp P B c Q sl' h' := by rw [h1,h2]
@[go_sem ↓] theorem awp_skip (P B Q sl h):awp P B .skip Q sl h=Q .normal ⟨sl,h⟩:=rfl
@[go_sem ↓] theorem awp_label (P B Q sl h l):awp P B (.label l) Q sl h=Q .normal ⟨sl,h⟩:=rfl
@[go_sem ↓] theorem awp_region (P B Q sl h id) (ops:List Oper):awp P B (.region id ops.toArray false) Q sl h=bX P ops (fun ids st' => Q .normal st') ops [] sl h:=by simp [awp]
@[go_sem ↓] theorem awp_region_draw (P B Q sl h id) (ops:List Oper):awp P B (.region id ops.toArray true) Q sl h=bX P ops (fun ids st' => eV ops ids=true∧Q .normal st') ops [] sl h:=by simp [awp]
@[go_sem ↓] theorem awp_seq (P B Q sl h a b):awp P B (.seq a b) Q sl h=awp P B a (il (fun st=>awp P B b Q st.sl st.h) Q) sl h:=rfl
@[go_sem ↓] theorem awp_cond (P B Q sl h c x y):awp P B (.cond c x y) Q sl h=fo (hold (ae sl c)) (awp P B x Q sl h) (awp P B y Q sl h):=rfl
@[go_sem ↓] theorem awp_block (P B Q sl h id body):awp P B (.block id body) Q sl h=awp P B body (fJ id Q) sl h:=rfl
def AWm (P:Program) (B:Base) (c:Code) (Q:AExit→ASt→Prop) (sl:List AV) (h:List Own):Prop:=AW P B c Q ⟨sl,h⟩
@[congr] theorem AWm_congr {P B c Q} {sl sl' : List AV} {h h' : List Own} (h1:sl=sl') (h2:h=h'):AWm P B c Q sl h=AWm P B c Q sl' h' := by rw [h1,h2]
@[go_sem ↓] theorem awp_loop (P B Q sl h body):awp P B (.loop body) Q sl h=AWm P B (.loop body) Q (hold sl) h:=by rw [hold_eq];rfl
@[go_sem ↓] theorem awp_scope (P B Q sl h body):awp P B (.scope body) Q sl h=AWm P B (.scope body) Q (hold sl) h:=by rw [hold_eq];rfl
@[go_sem ↓] theorem awp_exit (P B Q sl h id):awp P B (.exit id) Q sl h=Q (.exit id) ⟨sl,h⟩:=rfl
@[go_sem ↓] theorem awp_goto (P B Q sl h l):awp P B (.goto l) Q sl h=Q (.goto l) ⟨sl,h⟩:=rfl
@[go_sem ↓] theorem awp_ret (P B Q sl h):awp P B .ret Q sl h=Q .ret ⟨sl,h⟩:=rfl
theorem cz {all:List Oper} {K:List (List Nat × List Nat)→ASt→Prop} : ∀ (rest:List Oper) (acc:List (List Nat × List Nat)) (sl:List AV) (h:List Own),bX P all K rest acc sl h →
 ∃ (ps:List PStep) (st' : ASt),Plan P all rest sl (ofL h) ps st'.sl (ofL st'.h)∧K (acc.reverse ++ ps.map fun p=>(p.rids,p.wids)) st'
 | [],acc,sl,hp,h=>⟨[],⟨sl,hp⟩,.nil _ _,by simpa [bX] using h⟩
 | o::rest,acc,sl,hp,h=>by
   rw [awpOps_cons] at h
   simp only [hold_eq] at h
   cases hw:awanted all o sl with
   | none=>rw [hw] at h;exact h.elim
   | some b =>
   rw [hw,onSome_some] at h
   cases b with
   | false =>
     rw [aif_false] at h
     obtain ⟨ps,st', h1,h2⟩:=cz rest _ _ _ h
     refine ⟨⟨false,.val undef,[],[]⟩::ps,st', .cons o rest _ _ _ ps _ _ hw (by simp) h1,?_⟩
     simpa [PStep.rids,PStep.wids] using h2
   | true =>
     rw [aif_true] at h
     have fin : ∀ (av:AV) (rd T:List (Nat × Own)),OpW P o sl rd T av→Fits hp ⟨av,rd,T⟩→bX P all K rest ((rd.map (·.1),T.map (·.1))::acc) (aput sl o.dst av) (apT hp T) →
      ∃ (ps:List PStep) (st' : ASt),Plan P all (o::rest) sl (ofL hp) ps st'.sl (ofL st'.h)∧K (acc.reverse ++ ps.map fun p=>(p.rids,p.wids)) st' := by
      intro av rd T how hf hrest
      obtain ⟨ps,st', h1,h2⟩:=cz rest _ _ _ hrest
      refine ⟨⟨true,av,rd,T⟩::ps,st', .cons o rest _ _ ⟨true,av,rd,T⟩ ps _ _ hw (fun _=>⟨how,hf.1⟩) ?_,?_⟩
      ·simp only [PStep.val,if_true]
       rw [← lS hf.2]
       exact h1
      ·simpa [PStep.rids,PStep.wids] using h2
     rw [aoper_eq] at h
     simp only [hold_eq] at h
     cases hc:callOf sl o with
     | some fa =>
       rw [hc,onCase_some] at h
       obtain ⟨rd,T,res,h1,h2,h3⟩:=h
       exact fin res rd T (sY (f:=fa.1) (args:=fa.2) hc h1) h2 h3
     | none =>
       rw [hc,onCase_none] at h
       cases hr:aop P o sl hp with
       | none =>
         rw [hr] at h
         obtain ⟨rd,T,res,h1,h2,h3⟩:=h
         exact fin res rd T h1 h2 h3
       | some r =>
         rw [hr,onCase_some] at h
         obtain ⟨h1,h2⟩:=xw hr
         exact fin r.av r.rd r.T h1.w h2 h
theorem AW.mono {B:Base} {c:Code} {Q Q' : AExit→ASt→Prop} {st:ASt} (h:AW P B c Q st) (hq : ∀ e st', Q e st' → Q' e st'):AW P B c Q' st:=fun m w a hs hev =>
 wp_mono (h m w a hs hev) fun e a' w' ⟨e', st', m', h1,h2,h3⟩=>⟨e', st', m', h1,hq _ _ h2,h3⟩
theorem bC (hm:P.follows .mixedOrders=true) {B:Base} : ∀ (c:Code) (Q:AExit→ASt→Prop) (st:ASt),awp P B c Q st.sl st.h→AW P B c Q st:=by
 intro c
 induction c with
 | skip=>intro Q st h m w a hs hev;exact wp_skip ⟨.normal,st,m,rfl,h,hs,hev⟩
 | label l=>intro Q st h m w a hs hev;exact wp_label ⟨.normal,st,m,rfl,h,hs,hev⟩
 | exit id=>intro Q st h m w a hs hev;exact wp_exit ⟨.exit id,st,m,rfl,h,hs,hev⟩
 | goto l=>intro Q st h m w a hs hev;exact wp_goto ⟨.goto l,st,m,rfl,h,hs,hev⟩
 | ret=>intro Q st h m w a hs hev;exact wp_ret ⟨.ret,st,m,rfl,h,hs,hev⟩
 | loop body ih=>intro Q st h;exact h
 | scope body ih=>intro Q st h;exact h
 | rangeFunc f ps as body ih1 ih2=>intro Q st h;exact h.elim
 | refuse why=>intro Q st h;exact h.elim
 | block id body ih =>
   intro Q st h m w a hs hev
   refine wp_block (wp_mono (ih _ st h m w a hs hev) ?_)
   rintro e a' w' ⟨e', st', m', rfl,hq,hs', ev⟩
   cases e' with
   | normal=>exact ⟨.normal,st', m', rfl,hq,hs', ev⟩
   | exit id' =>
     simp only [aBlock_exit] at hq
     simp only [AExit.conc,Exit.inBlock]
     split
     ·rename_i e;rw [if_pos e] at hq;exact ⟨.normal,st', m', rfl,hq,hs', ev⟩
     ·rename_i e;rw [if_neg e] at hq;exact ⟨.exit id', st', m', rfl,hq,hs', ev⟩
   | goto l=>exact ⟨.goto l,st', m', rfl,hq,hs', ev⟩
   | ret=>exact ⟨.ret,st', m', rfl,hq,hs', ev⟩
 | cond c x y ihx ihy =>
   intro Q st h m w a hs hev
   unfold awp at h
   rw [hold_eq] at h
   unfold fo at h
   split at h
   ·rename_i b hb
    have hR:=hs.slots.eval c
    rw [hb] at hR
    have hv:=hR.val_inv
    cases b with
    | true=>rw [aif_true] at h;exact wp_cond_true hv (ihx Q st h m w a hs hev)
    | false=>rw [aif_false] at h;exact wp_cond_false hv (ihy Q st h m w a hs hev)
   ·exact h.elim
 | seq x y ihx ihy =>
   intro Q st h m w a hs hev
   refine wp_seq (wp_mono (ihx _ st h m w a hs hev) ?_)
   rintro e a' w' ⟨e', st', m', rfl,hq,hs', ev⟩
   cases e' with
   | normal =>
     simp only [aThen_normal] at hq
     exact ihy Q st' hq m' w' a' hs' ev
   | exit id=>exact ⟨.exit id,st', m', rfl,hq,hs', ev⟩
   | goto l=>exact ⟨.goto l,st', m', rfl,hq,hs', ev⟩
   | ret=>exact ⟨.ret,st', m', rfl,hq,hs', ev⟩
 | region id ops draw =>
   intro Q st h m w a hs hev
   unfold awp at h
   obtain ⟨ps,st', hp,hk⟩:=cz _ _ _ _ h
   simp only [List.reverse_nil,List.nil_append] at hk
   obtain ⟨hord,hq⟩:=hk
   have hops:ops=ops.toList.toArray:=by simp
   cases draw with
   | false =>
     refine wp_region ?_
     have:=Plan.lex (Q:=fun e a' w' => ∃ e' st' m', e=AExit.conc e' ∧ Q e' st' ∧ StR m' st'.sl (ofL st'.h) a' w' ∧ B.ev m' (ofL st'.h) w') B.rel ops.toList 0 st.sl (ofL st.h) ps rfl hp m a w hs hev
      (fun m' a' w' s1 e1=>⟨.normal,st', m', rfl,hq,s1,e1⟩)
     simpa [List.range_eq_range'] using this
   | true =>
     refine wp_region_any hm ?_
     have:=Plan.any (Q:=fun e a' w' => ∃ e' st' m', e=AExit.conc e' ∧ Q e' st' ∧ StR m' st'.sl (ofL st'.h) a' w' ∧ B.ev m' (ofL st'.h) w') hp (hord rfl) hs.rel hs
      (fun m' a' w' s1 e1=>⟨.normal,st', m', rfl,hq,s1,Ev.trans B.rel hev e1⟩) (wd := { w with drawn:=w.drawn + 1 }) rfl rfl rfl rfl
     simpa using this
end
structure Rn where
 L:Nat→Nat→Prop
 I:Nat→Nat→Prop
 F:Nat→Nat→Prop
inductive Ren (q:Rn) (h:Hp):AV→AV→Prop
 | any (c:AV):Ren q h c .any
 | val (v:Value):Ren q h (.val v) (.val v)
 | agg (cs cs' : List AV) (hl:cs.length=cs'.length) (hc : ∀ (i:Nat) (c c' : AV),cs[i]?=some c→cs'[i]?=some c' → Ren q h c c'):Ren q h (.agg cs) (.agg cs')
 | tup (cs cs' : List AV) (hl:cs.length=cs'.length) (hc : ∀ (i:Nat) (c c' : AV),cs[i]?=some c→cs'[i]?=some c' → Ren q h c c'):Ren q h (.tup cs) (.tup cs')
 | ptr (b b' i j:Nat) (hb:q.L b b'):Ren q h (.ptr b i j) (.ptr b' i j)
 | sl (b b' i n:Nat) (hb:q.L b b'):Ren q h (.sl b i n) (.sl b' i n)
 | nil (r r' sz:Nat) (hr:q.I r r'):Ren q h (.list r sz []) (.list r' sz [])
 | vnil (r sz:Nat):Ren q h (.val (.slice none 0 0)) (.list r sz [])
 | list (r r' sz:Nat) (rows rows' : List (List AV)) (hr:q.I r r') (hl:rows.length=rows'.length) (hw : ∀ (i:Nat) (row row' : List AV),rows[i]?=some row→rows'[i]?=some row' → row.length=row'.length)
  (hc : ∀ (i j:Nat) (row row' : List AV) (c c' : AV),rows[i]?=some row→rows'[i]?=some row' → row[j]?=some c→row'[j]?=some c' → Ren q h c c'):Ren q h (.list r sz rows) (.list r' sz rows')
 | glist (r r' sz:Nat) (rows rows' : List (List AV)) (hr:q.I r r') (hl:rows.length=rows'.length) (hw : ∀ (i:Nat) (row row' : List AV),rows[i]?=some row→rows'[i]?=some row' → row.length=row'.length)
  (hc : ∀ (i j:Nat) (row row' : List AV) (c c' : AV),rows[i]?=some row→rows'[i]?=some row' → row[j]?=some c→row'[j]?=some c' → Ren q h c c'):Ren q h (.glist r sz rows) (.glist r' sz rows')
 | gl (r sz:Nat) (rows:List (List AV)) (c' : AV) (hh:Ren q h (.list r sz rows) c'):Ren q h (.glist r sz rows) c'
 | vgnil (r sz:Nat):Ren q h (.val (.slice none 0 0)) (.glist r sz [])
 | frzg (b r i n:Nat) (k:Blk) (rows' : List (List AV)) (hr:q.F b r) (hb:h b = .live k) (hl:((k.rows.drop i).take n).length=rows'.length) (hw : ∀ (i' : Nat) (row row' : List AV),((k.rows.drop i).take n)[i']?=some row→rows'[i']?=some row' → row.length=row'.length)
  (hc : ∀ (i' j:Nat) (row row' : List AV) (c c' : AV),((k.rows.drop i).take n)[i']?=some row→rows'[i']?=some row' → row[j]?=some c→row'[j]?=some c' → Ren q h c c'):Ren q h (.sl b i n) (.glist r k.sz rows')
 | frz (b r i n:Nat) (k:Blk) (rows' : List (List AV)) (hr:q.F b r) (hb:h b = .live k) (hl:((k.rows.drop i).take n).length=rows'.length) (hw : ∀ (i' : Nat) (row row' : List AV),((k.rows.drop i).take n)[i']?=some row→rows'[i']?=some row' → row.length=row'.length)
  (hc : ∀ (i' j:Nat) (row row' : List AV) (c c' : AV),((k.rows.drop i).take n)[i']?=some row→rows'[i']?=some row' → row[j]?=some c→row'[j]?=some c' → Ren q h c c'):Ren q h (.sl b i n) (.list r k.sz rows')
 | lptr (r r' j:Nat) (row row' : List AV) (hr:q.I r r') (hl:row.length=row'.length) (hc : ∀ (i:Nat) (c c' : AV),row[i]?=some c→row'[i]?=some c' → Ren q h c c'):Ren q h (.lptr r row j) (.lptr r' row' j)
 | clo (f:FuncId) (cs cs' : List AV) (hl:cs.length=cs'.length) (hc : ∀ (i:Nat) (c c' : AV),cs[i]?=some c→cs'[i]?=some c' → Ren q h c c'):Ren q h (.clo f cs) (.clo f cs')
structure Cmp (m:Nm) (h:Hp) (m' : Nm) (h' : Hp) (q:Rn):Prop where
 L : ∀ x y,q.L x y → ∃ k k', h x = .live k∧h' y = .live k' ∧ k'.sz=k.sz∧k.rows.length≤k'.rows.length∧m'.pl y=m.pl x
 I : ∀ x y,q.I x y→(h x).imm∧(h' y).imm ∧ ∀ g,m.set x g→m'.set y g
 F : ∀ x y,q.F x y→(∃ k,h x = .live k)∧(h' y).imm∧m'.set y (m.pl x).1
theorem R.ren {m m' : Nm} {h h' : Hp} {w:World} {q:Rn} (rel:Rel m h w) (cmp:Cmp m h m' h' q) {c c' : AV} (hr:Ren q h c c') : ∀ {v:Value}, R m h w c v→R m' h' w c' v:=by
 have getq : ∀ {cs:List AV} {vs:Array Value} {i:Nat} {v:Value}, cs.length=vs.size→vs[i]?=some v → ∃ c,cs[i]?=some c:=fun {cs vs i v} hl hv=>by
  have:i < cs.length:=by rw [hl];exact (Array.getElem?_eq_some_iff.1 hv).1
  exact ⟨_,List.getElem?_eq_getElem this⟩
 have getl : ∀ {cs cs' : List AV} {i:Nat} {c' : AV}, cs.length=cs'.length→cs'[i]?=some c' → ∃ c,cs[i]?=some c:=fun {cs cs' i c'} hl hv=>by
  have:i < cs.length:=by rw [hl];exact (List.getElem?_eq_some_iff.1 hv).1
  exact ⟨_,List.getElem?_eq_getElem this⟩
 have getr : ∀ {rows rows' : List (List AV)} {i:Nat} {row' : List AV}, rows.length=rows'.length→rows'[i]?=some row' → ∃ row,rows[i]?=some row:=fun {cs cs' i c'} hl hv=>by
  have:i < cs.length:=by rw [hl];exact (List.getElem?_eq_some_iff.1 hv).1
  exact ⟨_,List.getElem?_eq_getElem this⟩
 induction hr with
 | any c=>intro v _;exact .any v
 | val u=>intro v hR;cases hR;exact .val _
 | agg cs cs' hl hc ih =>
   intro v hR
   cases hR with
   | agg _ vs hl2 hc2 =>
     refine .agg _ _ (hl ▸ hl2) fun i c' v h1 h2=>?_
     obtain ⟨c,hcc⟩:=getl hl h1
     exact ih i c c' hcc h1 (hc2 i c v hcc h2)
 | tup cs cs' hl hc ih =>
   intro v hR
   cases hR with
   | tup _ vs hl2 hc2 =>
     refine .tup _ _ (hl ▸ hl2) fun i c' v h1 h2=>?_
     obtain ⟨c,hcc⟩:=getl hl h1
     exact ih i c c' hcc h1 (hc2 i c v hcc h2)
 | ptr b b' i j hb =>
   intro v hR
   obtain ⟨k,k', h1,h2,h3,_,h5⟩:=cmp.L b b' hb
   obtain ⟨e,_⟩:=R.ptr_row rel h1 hR
   subst e
   have:=R.ptr (m:=m') (h:=h') (w:=w) b' i j k' h2
   rw [h5,h3] at this
   exact this
 | sl b b' i n hb =>
   intro v hR
   obtain ⟨k,k', h1,h2,h3,h4,h5⟩:=cmp.L b b' hb
   obtain ⟨off,cap,e,p1,p2,p3,p4,p5⟩:=R.sl_inv rel h1 hR
   subst e
   have:=R.sl (m:=m') (h:=h') (w:=w) b' i n k' h2 off cap (by omega) p2 p3 (by rw [h5,h3];exact p4) (by rw [h5,h3];exact p5)
   rw [h5] at this
   exact this
 | nil r r' sz hr =>
   intro v hR
   obtain ⟨h1,h2,h3⟩:=cmp.I r r' hr
   rcases R.list_inv h1 hR with ⟨_,e⟩|⟨_,a,cap,e,p1⟩|⟨g,off,cap,e,hg,p1,p2,_⟩
   ·subst e;exact .nil r' sz
   ·subst e;exact .emp r' sz cap a h2 p1
   ·subst e
    exact .list r' sz [] h2 g off cap (h3 g hg) p1 p2 (by simp) (fun _ _=>undef) (by simp) (by simp)
 | vnil r sz=>intro v hR;cases hR;exact .nil r sz
 | list r r' sz rows rows' hr hl hw hc ih =>
   intro v hR
   obtain ⟨h1,h2,h3⟩:=cmp.I r r' hr
   rcases R.list_inv h1 hR with ⟨e0,e⟩|⟨e0,a,cap,e,p1⟩|⟨g,off,cap,e,hg,p1,p2,p3,f,p4,p5⟩
   ·subst e
    rw [e0] at hl
    have:rows' = []:=List.eq_nil_of_length_eq_zero (by simpa using hl.symm)
    rw [this]
    exact .nil r' sz
   ·subst e
    rw [e0] at hl
    have:rows' = []:=List.eq_nil_of_length_eq_zero (by simpa using hl.symm)
    rw [this]
    exact .emp r' sz cap a h2 p1
   ·subst e
    rw [hl]
    refine .list r' sz rows' h2 g off cap (h3 g hg) (by omega) p2 (fun row' hm=>?_) f (fun i j row' c' a b=>?_) fun i j row' c' a b=>?_
    ·obtain ⟨i,hi⟩:=List.getElem?_of_mem hm
     obtain ⟨row,hrow⟩:=getr hl hi
     rw [← hw i row row' hrow hi]
     exact p3 row (List.mem_of_getElem? hrow)
    ·obtain ⟨row,hrow⟩:=getr hl a
     obtain ⟨c,hcc⟩:=getl (hw i row row' hrow a) b
     exact p4 i j row c hrow hcc
    ·obtain ⟨row,hrow⟩:=getr hl a
     obtain ⟨c,hcc⟩:=getl (hw i row row' hrow a) b
     exact ih i j row row' c c' hrow a hcc b (p5 i j row c hrow hcc)
 | glist r r' sz rows rows' hr hl hw hc ih =>
   intro v hR
   obtain ⟨h1,h2,h3⟩:=cmp.I r r' hr
   rcases R.glist_inv h1 hR with ⟨e0,e⟩|⟨e0,a,e⟩|⟨g,off,cap,e,hg,p1,p2,p3,pz,f,p4,p5⟩
   ·subst e
    rw [e0] at hl
    have:rows' = []:=List.eq_nil_of_length_eq_zero (by simpa using hl.symm)
    rw [this]
    exact .gnil r' sz
   ·subst e
    rw [e0] at hl
    have:rows' = []:=List.eq_nil_of_length_eq_zero (by simpa using hl.symm)
    rw [this]
    exact .gemp r' sz a h2
   ·subst e
    rw [hl]
    refine .glist r' sz rows' h2 g off cap (h3 g hg) (by omega) p2 (fun row' hm=>?_) pz f (fun i j row' c' a b=>?_) fun i j row' c' a b=>?_
    ·obtain ⟨i,hi⟩:=List.getElem?_of_mem hm
     obtain ⟨row,hrow⟩:=getr hl hi
     rw [← hw i row row' hrow hi]
     exact p3 row (List.mem_of_getElem? hrow)
    ·obtain ⟨row,hrow⟩:=getr hl a
     obtain ⟨c,hcc⟩:=getl (hw i row row' hrow a) b
     exact p4 i j row c hrow hcc
    ·obtain ⟨row,hrow⟩:=getr hl a
     obtain ⟨c,hcc⟩:=getl (hw i row row' hrow a) b
     exact ih i j row row' c c' hrow a hcc b (p5 i j row c hrow hcc)
 | gl r sz rows c' hh ih=>intro v hR;exact ih hR.g2l
 | vgnil r sz=>intro v hR;cases hR;exact .gnil r sz
 | frz b r i n k rows' hr hb hl hw hc ih =>
   intro v hR
   obtain ⟨_,h2,h3⟩:=cmp.F b r hr
   obtain ⟨off,cap,e,p1,p2,p3,p4,p5⟩:=R.sl_inv rel hb hR
   subst e
   obtain ⟨cur,hcur,hsz,hrows,hcells⟩:=rel.own b k hb
   have hlen:((k.rows.drop i).take n).length=n:=by rw [List.length_take,List.length_drop];omega
   have hn' : n=rows'.length:=by rw [← hl,hlen]
   have cell : ∀ (i' j:Nat) (row:List AV) (c:AV),((k.rows.drop i).take n)[i']?=some row→row[j]?=some c → ∃ v,w.cell? ⟨(m.pl b).1,off + i' * k.sz + j,none⟩=some v∧R m h w c v:=by
    intro i' j row c a b'
    have hin:i' < n:=by rw [← hlen];exact (List.getElem?_eq_some_iff.1 a).1
    have hoff:=p4 (by omega)
    rw [List.getElem?_take,if_pos hin,List.getElem?_drop] at a
    obtain ⟨v,v1,v2⟩:=hcells (i + i') j row c a b'
    refine ⟨v,?_,v2⟩
    simp only [World.cell?,hcur]
    rw [← v1,hoff,Nat.add_mul, ← Nat.add_assoc]
    rfl
   have rowLen : ∀ row,row∈(k.rows.drop i).take n→row.length=k.sz:=fun row hm=>hrows row (List.mem_of_mem_drop (List.mem_of_mem_take hm))
   rw [hn']
   -- the values,by place
   refine .list r k.sz rows' h2 (m.pl b).1 off cap h3 (by omega) p3 (fun row' hm=>?_) (fun i' j=>(w.cell? ⟨(m.pl b).1,off + i' * k.sz + j,none⟩).getD undef) (fun i' j row' c' a b' => ?_) fun i' j row' c' a b' => ?_
   ·obtain ⟨i', hi⟩:=List.getElem?_of_mem hm
    obtain ⟨row,hrow⟩:=getr hl hi
    rw [← hw i' row row' hrow hi]
    exact rowLen row (List.mem_of_getElem? hrow)
   ·obtain ⟨row,hrow⟩:=getr hl a
    obtain ⟨c,hcc⟩:=getl (hw i' row row' hrow a) b'
    obtain ⟨v,v1,_⟩:=cell i' j row c hrow hcc
    rw [v1];rfl
   ·obtain ⟨row,hrow⟩:=getr hl a
    obtain ⟨c,hcc⟩:=getl (hw i' row row' hrow a) b'
    obtain ⟨v,v1,v2⟩:=cell i' j row c hrow hcc
    rw [v1]
    exact ih i' j row row' c c' hrow a hcc b' v2
 | frzg b r i n k rows' hr hb hl hw hc ih =>
   intro v hR
   obtain ⟨_,h2,h3⟩:=cmp.F b r hr
   obtain ⟨off,cap,e,p1,p2,p3,p4,p5⟩:=R.sl_inv rel hb hR
   subst e
   obtain ⟨cur,hcur,hsz,hrows,hcells⟩:=rel.own b k hb
   have hlen:((k.rows.drop i).take n).length=n:=by rw [List.length_take,List.length_drop];omega
   have hn' : n=rows'.length:=by rw [← hl,hlen]
   have cell : ∀ (i' j:Nat) (row:List AV) (c:AV),((k.rows.drop i).take n)[i']?=some row→row[j]?=some c → ∃ v,w.cell? ⟨(m.pl b).1,off + i' * k.sz + j,none⟩=some v∧R m h w c v:=by
    intro i' j row c a b'
    have hin:i' < n:=by rw [← hlen];exact (List.getElem?_eq_some_iff.1 a).1
    have hoff:=p4 (by omega)
    rw [List.getElem?_take,if_pos hin,List.getElem?_drop] at a
    obtain ⟨v,v1,v2⟩:=hcells (i + i') j row c a b'
    refine ⟨v,?_,v2⟩
    simp only [World.cell?,hcur]
    rw [← v1,hoff,Nat.add_mul, ← Nat.add_assoc]
    rfl
   have rowLen : ∀ row,row∈(k.rows.drop i).take n→row.length=k.sz:=fun row hm=>hrows row (List.mem_of_mem_drop (List.mem_of_mem_take hm))
   rw [hn']
   -- the values,by place
   refine .glist r k.sz rows' h2 (m.pl b).1 off cap h3 (by omega) p3 (fun row' hm=>?_) (fun c0 cur2 e2 f2 hc2=>by have h5:=p5 cur2 e2 f2 hc2 c0;have h6:=p4 c0;rw [Nat.add_mul] at h5;omega) (fun i' j=>(w.cell? ⟨(m.pl b).1,off + i' * k.sz + j,none⟩).getD undef) (fun i' j row' c' a b' => ?_) fun i' j row' c' a b' => ?_
   ·obtain ⟨i', hi⟩:=List.getElem?_of_mem hm
    obtain ⟨row,hrow⟩:=getr hl hi
    rw [← hw i' row row' hrow hi]
    exact rowLen row (List.mem_of_getElem? hrow)
   ·obtain ⟨row,hrow⟩:=getr hl a
    obtain ⟨c,hcc⟩:=getl (hw i' row row' hrow a) b'
    obtain ⟨v,v1,_⟩:=cell i' j row c hrow hcc
    rw [v1];rfl
   ·obtain ⟨row,hrow⟩:=getr hl a
    obtain ⟨c,hcc⟩:=getl (hw i' row row' hrow a) b'
    obtain ⟨v,v1,v2⟩:=cell i' j row c hrow hcc
    rw [v1]
    exact ih i' j row row' c c' hrow a hcc b' v2
 | lptr r r' j row row' hr hl hc ih =>
   intro v hR
   obtain ⟨h1,h2,h3⟩:=cmp.I r r' hr
   cases hR with
   | lptr _ _ _ hri g off hg f hf hRR =>
     refine .lptr r' row' j h2 g off (h3 g hg) f (fun j' c' a=>?_) fun j' c' a=>?_
     ·obtain ⟨c,hcc⟩:=getl hl a
      exact hf j' c hcc
     ·obtain ⟨c,hcc⟩:=getl hl a
      exact ih j' c c' hcc a (hRR j' c hcc)
   | lptrD _ _ _ _ hd _=>rw [hd] at h1;exact h1.elim
 | clo f cs cs' hl hc ih =>
   intro v hR
   cases hR with
   | clo _ _ vs hl2 hc2 =>
     refine .clo f _ _ (hl ▸ hl2) fun i c' v h1 h2=>?_
     obtain ⟨c,hcc⟩:=getl hl h1
     exact ih i c c' hcc h1 (hc2 i c v hcc h2)
def RowsRen (q:Rn) (h:Hp) (rows rows' : List (List AV)):Prop :=
 rows.length=rows'.length∧(∀ (i:Nat) (row row' : List AV),rows[i]?=some row→rows'[i]?=some row' → row.length=row'.length) ∧
  ∀ (i j:Nat) (row row' : List AV) (c c' : AV),rows[i]?=some row→rows'[i]?=some row' → row[j]?=some c→row'[j]?=some c' → Ren q h c c'
structure RnOk (h h' : Hp) (q:Rn):Prop where
 live : ∀ y k', h' y = .live k' → ∃ x k,q.L x y∧h x = .live k∧k'.sz=k.sz∧k'.elem=k.elem∧RowsRen q h k.rows k'.rows
 L : ∀ x y,q.L x y → ∃ k k', h x = .live k∧h' y = .live k'
 L1 : ∀ x x' y,q.L x y→q.L x' y→x=x'
 L2 : ∀ x y y', q.L x y→q.L x y' → y=y'
 I : ∀ x y,q.I x y→(h x).imm∧(h' y).imm∧(h' y = .uniq→h x = .uniq)
 I2 : ∀ x y y', q.I x y→q.I x y' → h' y = .uniq→y=y'
 F : ∀ x y,q.F x y→(∃ k,h x = .live k)∧(h' y).imm
 F2 : ∀ x y y', q.F x y→q.F x y' → h' y = .uniq→y=y'
 FL : ∀ x y y', q.F x y → ¬ q.L x y'
structure NmRen (m m' : Nm) (h' : Hp) (q:Rn):Prop where
 pl : ∀ x y,q.L x y→m'.pl y=m.pl x
 set : ∀ y g,(h' y).imm→(m'.set y g ↔ (∃ x,q.I x y∧m.set x g) ∨ ∃ x,q.F x y∧g=(m.pl x).1)
theorem NmRen.cmp {m m' : Nm} {h h' : Hp} {q:Rn} (nm:NmRen m m' h' q) (ok:RnOk h h' q):Cmp m h m' h' q where
 L:=fun x y hxy=>by
  obtain ⟨k,k', h1,h2⟩:=ok.L x y hxy
  obtain ⟨x2,k2,h3,h4,h5,_,h7,_⟩:=ok.live y k' h2
  have:=ok.L1 x x2 y hxy h3
  subst this
  rw [h1] at h4;cases h4
  exact ⟨k,k', h1,h2,h5,by omega,nm.pl x y hxy⟩
 I:=fun x y hxy=>by
  obtain ⟨h1,h2,_⟩:=ok.I x y hxy
  exact ⟨h1,h2,fun g hg=>(nm.set y g h2).2 (.inl ⟨x,hxy,hg⟩)⟩
 F:=fun x y hxy=>by
  obtain ⟨h1,h2⟩:=ok.F x y hxy
  exact ⟨h1,h2,(nm.set y _ h2).2 (.inr ⟨x,hxy,rfl⟩)⟩
theorem Rel.ren {m m' : Nm} {h h' : Hp} {w:World} {q:Rn} (rel:Rel m h w) (ok:RnOk h h' q) (nm:NmRen m m' h' q):Rel m' h' w:=by
 have cmp:=nm.cmp ok
 have src : ∀ y k', h' y = .live k' → ∃ x k,q.L x y∧h x = .live k∧m'.pl y=m.pl x:=fun y k' hy=>by
  obtain ⟨x,k,h1,h2,_⟩:=ok.live y k' hy
  exact ⟨x,k,h1,h2,nm.pl x y h1⟩
 refine ⟨?_,?_,?_,?_,?_,?_⟩
 ·intro y k' hy
  obtain ⟨x,k,h1,h2,h3,h4,h5,h6,h7⟩:=ok.live y k' hy
  obtain ⟨cur,c1,c2,c3,c4⟩:=rel.own x k h2
  have hpl:=nm.pl x y h1
  refine ⟨cur,by rw [hpl,h4];exact c1,by rw [hpl,h3, ← h5];exact c2,fun row' hm=>?_,fun i j row' c' a b=>?_⟩
  ·obtain ⟨i,hi⟩:=List.getElem?_of_mem hm
   have hlt:i < k.rows.length:=by rw [h5];exact (List.getElem?_eq_some_iff.1 hi).1
   rw [← h6 i _ row' (List.getElem?_eq_getElem hlt) hi,h3]
   exact c3 _ (List.getElem_mem hlt)
  ·have hlt:i < k.rows.length:=by rw [h5];exact (List.getElem?_eq_some_iff.1 a).1
   have hrow:=List.getElem?_eq_getElem hlt
   have hlj:j < (k.rows[i]).length:=by rw [h6 i _ row' hrow a];exact (List.getElem?_eq_some_iff.1 b).1
   have hcc:=List.getElem?_eq_getElem hlj
   obtain ⟨v,v1,v2⟩:=c4 i j _ _ hrow hcc
   exact ⟨v,by rw [hpl,h3];exact v1,R.ren rel cmp (h7 i j _ row' _ c' hrow a hcc b) v2⟩
 ·intro y y' k k' hy hy' e
  obtain ⟨x,k1,h1,h2,h3⟩:=src y k hy
  obtain ⟨x', k2,h1', h2', h3'⟩:=src y' k' hy'
  rw [h3,h3'] at e
  have:=rel.sep x x' k1 k2 h2 h2' e
  subst this
  exact ok.L2 x y y' h1 h1'
 ·intro y k r hy hr hs
  obtain ⟨x,k1,h1,h2,h3⟩:=src y k hy
  rw [h3] at hs
  rcases (nm.set r _ hr).1 hs with ⟨x', hI,hg⟩|⟨x', hF,hg⟩
  ·exact rel.sepR x k1 x' h2 (ok.I x' r hI).1 hg
  ·obtain ⟨⟨k2,hk2⟩,_⟩:=ok.F x' r hF
   have:=rel.sep x x' k1 k2 h2 hk2 hg
   subst this
   exact ok.FL x r y hF h1
 ·intro r r' g hr hr' hne hs hs'
  rcases (nm.set r g (by rw [hr];trivial)).1 hs with ⟨x,hI,hg⟩|⟨x,hF,hg⟩
  ·obtain ⟨hi1,_,hu⟩:=ok.I x r hI
   rcases (nm.set r' g hr').1 hs' with ⟨x', hI', hg'⟩|⟨x', hF', hg'⟩
   ·by_cases e:x=x'
    ·subst e;exact hne (ok.I2 x r r' hI hI' hr)
    ·exact rel.sepU x x' g (hu hr) (ok.I x' r' hI').1 e hg hg'
   ·obtain ⟨⟨k2,hk2⟩,_⟩:=ok.F x' r' hF'
    exact rel.sepR x' k2 x hk2 hi1 (hg' ▸ hg)
  ·obtain ⟨⟨k1,hk1⟩,_⟩:=ok.F x r hF
   rcases (nm.set r' g hr').1 hs' with ⟨x', hI', hg'⟩|⟨x', hF', hg'⟩
   ·exact rel.sepR x k1 x' hk1 (ok.I x' r' hI').1 (hg ▸ hg')
   ·obtain ⟨⟨k2,hk2⟩,_⟩:=ok.F x' r' hF'
    have:=rel.sep x x' k1 k2 hk1 hk2 (hg.symm.trans hg')
    subst this
    exact hne (ok.F2 x r r' hF hF' hr)
 ·intro r g hr hs
  rcases (nm.set r g hr).1 hs with ⟨x,hI,hg⟩|⟨x,hF,hg⟩
  ·exact rel.bound x g (ok.I x r hI).1 hg
  ·obtain ⟨⟨k1,hk1⟩,_⟩:=ok.F x r hF
   obtain ⟨cur,c1,_⟩:=rel.own x k1 hk1
   rw [hg];exact (Array.getElem?_eq_some_iff.1 c1).1
 ·intro r g hr hs
  rcases (nm.set r g (by rw [hr];trivial)).1 hs with ⟨x,hI,hg⟩|⟨x,hF,hg⟩
  ·exact rel.free x g ((ok.I x r hI).2.2 hr) hg
  ·obtain ⟨⟨k1,hk1⟩,_⟩:=ok.F x r hF
   obtain ⟨cur,c1,_⟩:=rel.own x k1 hk1
   exact ⟨cur,_,by rw [hg];exact c1⟩
structure RnB (b h h' : Hp) (q:Rn):Prop where
 ok:RnOk h h' q
 L : ∀ x y,q.L x y→b y ≠ .unused→x=y
 I : ∀ x y,q.I x y→b y ≠ .unused→x=y
 Ib : ∀ y,b y ≠ .unused→(h' y).imm→q.I y y
 F : ∀ x y,q.F x y→b y = .unused
 kind : ∀ y,b y ≠ .unused→(h y).goes (h' y)
 newU : ∀ x y,q.I x y→b y = .unused→h' y = .uniq→b x ≠ .unused→h' x = .dead
def ConvS (B:Base) (st st' : ASt):Prop :=
 ∀ (m:Nm) (w:World) (a:Act),StR m st.sl (ofL st.h) a w→B.ev m (ofL st.h) w → ∃ m', StR m' st'.sl (ofL st'.h) a w∧B.ev m' (ofL st'.h) w
theorem ConvS.refl (B:Base) (st:ASt):ConvS B st st:=fun m w a h e=>⟨m,h,e⟩
theorem ConvS.trans {B:Base} {s1 s2 s3:ASt} (h1:ConvS B s1 s2) (h2:ConvS B s2 s3):ConvS B s1 s3:=fun m w a h e =>
 let ⟨m', a1,b1⟩:=h1 m w a h e
 h2 m' w a a1 b1
open Classical in
noncomputable def Nm.turn (m:Nm) (b:Hp) (q:Rn):Nm where
 pl:=fun y=>if b y ≠ .unused then m.pl y else if h : ∃ x,q.L x y then m.pl h.choose else (0,0)
 set:=fun y=>if b y ≠ .unused then m.set y else fun g=>(∃ x,q.I x y∧m.set x g) ∨ ∃ x,q.F x y∧g=(m.pl x).1
theorem Nm.turn_ok {m:Nm} {b h h' : Hp} {q:Rn} (hb:RnB b h h' q):NmRen m (m.turn b q) h' q where
 pl:=fun x y hxy=>by
  unfold Nm.turn
  by_cases hy:b y = .unused
  ·have hex : ∃ x,q.L x y:=⟨x,hxy⟩
   simp only [ne_eq,hy,not_true_eq_false,if_false,hex,dif_pos]
   rw [hb.ok.L1 x hex.choose y hxy hex.choose_spec]
  ·simp only [ne_eq,hy,not_false_eq_true,if_true]
   rw [hb.L x y hxy hy]
 set:=fun y g hi=>by
  unfold Nm.turn
  by_cases hy:b y = .unused
  ·simp only [ne_eq,hy,not_true_eq_false,if_false]
  ·simp only [ne_eq,hy,not_false_eq_true,if_true]
   constructor
   ·intro hg;exact .inl ⟨y,hb.Ib y hy hi,hg⟩
   ·rintro (⟨x,hx,hg⟩|⟨x,hx,_⟩)
    ·rw [hb.I x y hx hy] at hg;exact hg
    ·exact absurd (hb.F x y hx) hy
theorem Ev.turn {m0 m:Nm} {b h h' : Hp} {w0 w:World} {q:Rn} (hb:RnB b h h' q) (rel:Rel m h w) (ev:Ev m0 b w0 m h w):Ev m0 b w0 (m.turn b q) h' w:=by
 have nm:=Nm.turn_ok (m:=m) hb
 have bpl : ∀ y,b y ≠ .unused→(m.turn b q).pl y=m.pl y:=fun y hy=>by simp [Nm.turn,hy]
 have bset : ∀ y,b y ≠ .unused→(m.turn b q).set y=m.set y:=fun y hy=>by simp [Nm.turn,hy]
 refine ⟨fun y hy=>(bpl y hy).trans (ev.pl y hy),fun y hy=>(bset y hy).trans (ev.set y hy),fun y=>?_,ev.size,?_,?_,?_,?_,ev.os,ev.tape,ev.output⟩
 ·by_cases hy:b y = .unused
  ·rw [hy];trivial
  ·exact Own.goes_trans (ev.kind y) (hb.kind y hy) (fun _=>Own.goes_used (ev.kind y) hy)
 ·intro id k k' h1 h2 cur e f hc
  have hu:b id ≠ .unused:=by rw [h1];simp
  have hk:=hb.kind id hu
  rw [h2] at hk
  cases hh:h id with
  | live k2=>exact ev.cells id k k2 h1 hh cur e f hc
  | unused=>exact absurd hh (Own.goes_used (ev.kind id) hu)
  | dead=>rw [hh] at hk;exact hk.elim
  | perm=>rw [hh] at hk;exact hk.elim
  | uniq=>rw [hh] at hk;exact hk.elim
 ·intro g hg ho hu
  refine ev.frame g hg ho fun r hr hs=>?_
  have hru:b r ≠ .unused:=by rw [hr];simp
  have hk:=hb.kind r hru
  rw [hu r hr hs] at hk
  cases hh:h r with
  | uniq=>rfl
  | unused=>exact absurd hh (Own.goes_used (ev.kind r) hru)
  | dead=>rw [hh] at hk;exact hk.elim
  | perm=>rw [hh] at hk;exact hk.elim
  | live k=>rw [hh] at hk;exact hk.elim
 ·intro id k h1 h2
  obtain ⟨x,k0,hL,hx,_⟩:=hb.ok.live id k h2
  rw [nm.pl x id hL]
  by_cases hbx:b x = .unused
  ·rcases ev.new x k0 hbx hx with h|h|⟨r,hr,hd,hs⟩
   ·exact .inl h
   ·exact .inr (.inl h)
   ·refine .inr (.inr ⟨r,hr,?_,hs⟩)
    have hk:=hb.kind r (by rw [hr];simp)
    rw [hd] at hk
    cases hh:h' r<;>rw [hh] at hk<;>first|rfl|exact hk.elim
  ·rw [ev.pl x hbx]
   have hk:=ev.kind x
   rw [hx] at hk
   cases hh:b x with
   | live kb=>exact .inr (.inl ⟨x,kb,hh,rfl⟩)
   | unused=>exact absurd hh hbx
   | dead=>rw [hh] at hk;exact hk.elim
   | perm=>rw [hh] at hk;exact hk.elim
   | uniq=>rw [hh] at hk;exact hk.elim
 ·intro r g h1 h2 hs
  rcases (nm.set r g (by rw [h2];trivial)).1 hs with ⟨x,hI,hg⟩|⟨x,hF,hg⟩
  ·have hxu:=(hb.ok.I x r hI).2.2 h2
   by_cases hbx:b x = .unused
   ·rcases ev.newU x g hbx hxu hg with h|h|⟨r2,hr,hd,hs⟩
    ·exact .inl h
    ·exact .inr (.inl h)
    ·refine .inr (.inr ⟨r2,hr,?_,hs⟩)
     have hk:=hb.kind r2 (by rw [hr];simp)
     rw [hd] at hk
     cases hh:h' r2<;>rw [hh] at hk<;>first|rfl|exact hk.elim
   ·have hk:=ev.kind x
    rw [hxu] at hk
    have hbu:b x = .uniq:=by cases hh:b x<;>rw [hh] at hk<;>first|rfl|exact absurd hh hbx|exact hk.elim
    rw [ev.set x hbx] at hg
    exact .inr (.inr ⟨x,hbu,hb.newU x r hI h1 h2 hbx,hg⟩)
  ·obtain ⟨⟨k0,hk0⟩,_⟩:=hb.ok.F x r hF
   by_cases hbx:b x = .unused
   ·rw [hg]
    rcases ev.new x k0 hbx hk0 with h|h|⟨r2,hr,hd,hs⟩
    ·exact .inl h
    ·exact .inr (.inl h)
    ·refine .inr (.inr ⟨r2,hr,?_,hs⟩)
     have hk:=hb.kind r2 (by rw [hr];simp)
     rw [hd] at hk
     cases hh:h' r2<;>rw [hh] at hk<;>first|rfl|exact hk.elim
   ·have hk:=ev.kind x
    rw [hk0] at hk
    rw [hg,ev.pl x hbx]
    cases hh:b x with
    | live kb=>exact .inr (.inl ⟨x,kb,hh,rfl⟩)
    | unused=>exact absurd hh hbx
    | dead=>rw [hh] at hk;exact hk.elim
    | perm=>rw [hh] at hk;exact hk.elim
    | uniq=>rw [hh] at hk;exact hk.elim
def ke (q:Rn) (h:Hp) (sl sl' : List AV):Prop:=sl.length=sl'.length ∧ ∀ (i:Nat) (c c' : AV),sl[i]?=some c→sl'[i]?=some c' → Ren q h c c'
theorem ConvS.turn {B:Base} {sl sl' : List AV} {h h' : List Own} (q:Rn) (hb:RnB B.h (ofL h) (ofL h') q) (hs:ke q (ofL h) sl sl'):ConvS B ⟨sl,h⟩ ⟨sl', h'⟩:=by
 intro m w a st ev
 have nm:=Nm.turn_ok (m:=m) hb
 refine ⟨m.turn B.h q,⟨st.rel.ren hb.ok nm,fun t=>?_,hs.1.symm.trans st.len,st.defers⟩,Ev.turn hb st.rel ev⟩
 have hR:=st.slots t
 by_cases ht:t < sl.length
 ·have e1:sl.getD t (.val undef)=sl[t]:=by simp [List.getD,ht]
  have e2:sl'.getD t (.val undef)=sl'[t]'(by rw [← hs.1];exact ht):=by simp [List.getD,show t < sl'.length by rw [← hs.1];exact ht]
  simp only at hR ⊢
  rw [e1] at hR
  rw [e2]
  exact hR.ren st.rel (nm.cmp hb.ok) (hs.2 t _ _ (List.getElem?_eq_getElem ht) (List.getElem?_eq_getElem (by rw [← hs.1];exact ht)))
 ·have e1:sl.getD t (.val undef) = .val undef:=by simp [List.getD,ht]
  have e2:sl'.getD t (.val undef) = .val undef:=by simp [List.getD,show ¬ t < sl'.length by rw [← hs.1];exact ht]
  simp only at hR ⊢
  rw [e1] at hR
  rw [e2,hR.val_inv]
  exact .val _
section
variable {P:Program} {B:Base}
theorem AW.conv {c:Code} {Q:AExit→ASt→Prop} {st st' : ASt} (hc:ConvS B st st') (h:AW P B c Q st'):AW P B c Q st:=fun m w a hs ev=>by
 obtain ⟨m', hs', ev'⟩:=hc m w a hs ev
 exact h m' w a hs' ev'
theorem pX {X:Type} {body:Code} {Q:AExit→ASt→Prop} {st:ASt} (F:X→ASt) (μ:X→Nat) (x0:X) (h0:ConvS B st (F x0))
 (round : ∀ x,AW P B body (il (fun st' => ∃ y,ConvS B st' (F y)∧μ y < μ x) Q) (F x)):AW P B (.loop body) Q st:=by
 refine AW.conv h0 fun m w a hs ev=>?_
 refine wp_loop_rounds (μ x0 + 1) ?_
 have key : ∀ n x m w a,μ x < n→StR m (F x).sl (ofL (F x).h) a w→B.ev m (ofL (F x).h) w→Code.rounds P body (fun e a' w' => ∃ e' st' m', e=AExit.conc e' ∧ Q e' st' ∧ StR m' st'.sl (ofL st'.h) a' w' ∧ B.ev m' (ofL st'.h) w') n a w:=by
  intro n
  induction n with
  | zero=>intro x m w a h;omega
  | succ n ih =>
    intro x m w a hlt hs ev
    rw [rounds_succ]
    refine wp_mono (round x m w a hs ev) ?_
    rintro e a' w' ⟨e', st', m', rfl,hq,hs', ev'⟩
    cases e' with
    | normal =>
      obtain ⟨y,hy,hm⟩:=hq
      obtain ⟨m2,hs2,ev2⟩:=hy m' w' a' hs' ev'
      exact ih y m2 w' a' (by omega) hs2 ev2
    | exit id=>exact ⟨.exit id,st', m', rfl,hq,hs', ev'⟩
    | goto l=>exact ⟨.goto l,st', m', rfl,hq,hs', ev'⟩
    | ret=>exact ⟨.ret,st', m', rfl,hq,hs', ev'⟩
 exact key _ x0 m w a (by omega) hs ev
def jw (B:Base) (body:Code) {X:Type} (lab:X→Nat) (F:X→ASt) (ok:X→Prop) (Q:AExit→ASt→Prop):AExit→ASt→Prop
 | .goto l,st=>(∃ y,lab y=l∧ok y∧ConvS B st (F y))∨(findLabel body l=none∧Q (.goto l) st)
 | e,st=>Q e st
@[go_sem ↓] theorem aJump_normal (body X lab F ok Q st):jw (X:=X) B body lab F ok Q .normal st=Q .normal st:=rfl
@[go_sem ↓] theorem aJump_ret (body X lab F ok Q st):jw (X:=X) B body lab F ok Q .ret st=Q .ret st:=rfl
@[go_sem ↓] theorem aJump_exit (body X lab F ok Q st id):jw (X:=X) B body lab F ok Q (.exit id) st=Q (.exit id) st:=rfl
theorem j8 {X:Type} {body:Code} {Q:AExit→ASt→Prop} {st:ASt} (lab:X→Nat) (F:X→ASt) (μ:X→Nat) (hl : ∀ x,(findLabel body (lab x)).isSome=true)
 (first:AW P B body (jw B body lab F (fun _=>True) Q) st) (pass : ∀ x rest,findLabel body (lab x)=some rest→AW P B rest (jw B body lab F (fun y=>μ y < μ x) Q) (F x)):AW P B (.scope body) Q st:=by
 intro m w a hs ev b k cs
 have hg : ∀ l rest,findLabel body l=some rest→gotoIn l (.inScope body::k)=some (.code rest :: .inScope body::k):=fun l rest hf=>by simp [gotoIn,hf]
 have hn : ∀ l k', findLabel body l=none→gotoIn l k=some k' → gotoIn l (.inScope body::k)=some k' := fun l k' hf hk=>by simp [gotoIn,hf,hk]
 have key : ∀ n x,μ x=n → ∀ (m:Nm) (w:World) (a:Act) (rest:Code),findLabel body (lab x)=some rest→StR m (F x).sl (ofL (F x).h) a w→B.ev m (ofL (F x).h) w →
  ∃ e a' w', (∃ e' st' m', e=AExit.conc e' ∧ Q e' st' ∧ StR m' st'.sl (ofL st'.h) a' w' ∧ B.ev m' (ofL st'.h) w')∧Arrives P (lone (b.at a (.code rest :: .inScope body::k)) cs w) b k cs e a' w' := by
  intro n
  induction n using Nat.strongRecOn with
  | _ n ih =>
    intro x hx m w a rest hf hs ev
    obtain ⟨e,a₁,w₁,⟨e', st', m', rfl,hq,hs', ev'⟩,harr⟩:=pass x rest hf m w a hs ev b (.inScope body::k) cs
    cases e' with
    | normal=>exact ⟨.normal,a₁,w₁,⟨.normal,st', m', rfl,hq,hs', ev'⟩,Steps.trans harr (.one step_inScope)⟩
    | exit id=>exact ⟨.exit id,a₁,w₁,⟨.exit id,st', m', rfl,hq,hs', ev'⟩,fun k' hk=>harr k' (by simp [exitTo,hk])⟩
    | ret=>exact ⟨_,a₁,w₁,⟨.ret,st', m', rfl,hq,hs', ev'⟩,harr⟩
    | goto l =>
      rcases hq with ⟨y,hy,hlt,hcv⟩|⟨hnone,hq⟩
      ·obtain ⟨m2,hs2,ev2⟩:=hcv m' w₁ a₁ hs' ev'
       obtain ⟨r2,hr2⟩:=Option.isSome_iff_exists.1 (hl y)
       obtain ⟨e2,a₂,w₂,hq₂,harr₂⟩:=ih _ (by omega) y rfl m2 w₁ a₁ r2 hr2 hs2 ev2
       subst hy
       exact ⟨e2,a₂,w₂,hq₂,.of_steps (harr _ (hg _ r2 hr2)) harr₂⟩
      ·exact ⟨.goto l,a₁,w₁,⟨.goto l,st', m', rfl,hq,hs', ev'⟩,fun k' hk=>harr k' (hn l k' hnone hk)⟩
 obtain ⟨e,a₁,w₁,⟨e', st', m', rfl,hq,hs', ev'⟩,harr⟩:=first m w a hs ev b (.inScope body::k) cs
 cases e' with
 | normal=>exact ⟨.normal,a₁,w₁,⟨.normal,st', m', rfl,hq,hs', ev'⟩,.head step_scope (Steps.trans harr (.one step_inScope))⟩
 | exit id=>exact ⟨.exit id,a₁,w₁,⟨.exit id,st', m', rfl,hq,hs', ev'⟩,fun k' hk => .head step_scope (harr k' (by simp [exitTo,hk]))⟩
 | ret=>exact ⟨_,a₁,w₁,⟨.ret,st', m', rfl,hq,hs', ev'⟩,.of_steps (.one step_scope) harr⟩
 | goto l =>
   rcases hq with ⟨y,hy,_,hcv⟩|⟨hnone,hq⟩
   ·obtain ⟨m2,hs2,ev2⟩:=hcv m' w₁ a₁ hs' ev'
    obtain ⟨r2,hr2⟩:=Option.isSome_iff_exists.1 (hl y)
    obtain ⟨e2,a₂,w₂,hq₂,harr₂⟩:=key _ y rfl m2 w₁ a₁ r2 hr2 hs2 ev2
    subst hy
    exact ⟨e2,a₂,w₂,hq₂,.of_steps (.head step_scope (harr _ (hg _ r2 hr2))) harr₂⟩
   ·exact ⟨.goto l,a₁,w₁,⟨.goto l,st', m', rfl,hq,hs', ev'⟩,fun k' hk => .head step_scope (harr k' (hn l k' hnone hk))⟩
end
end Go.Proofs.YtceohcbokbalhaaGreat
namespace Go.Proofs.YtceohcbokbalhaaGreat
open Go.RowKit
set_option linter.unusedVariables false
set_option linter.unusedSimpArgs false
section
variable {P:Program}
def ACallL (P:Program) (f:FuncId) (args:List AV) (L0:List Own) (res:AV) (L1:List Own):Prop :=
 cn P f ∧ ∀ (m:Nm) (w:World) (vs:Array Value),Rel m (ofL L0) w→RL m (ofL L0) w args vs →
  Calls P f vs w fun e w' => ∃ v m', e = .returned v∧Rel m' (ofL L1) w' ∧ Ev m (ofL L0) w m' (ofL L1) w' ∧ R m' (ofL L1) w' res v
@[go_sem] def ares1 (P:Program) (sl:List AV) (h:List Own):ResultVar→Option AV
  | .tmp t=>some (sl.getD t (.val undef))
  | .cell a t=>(aload P t (sl.getD a (.val undef)) (ofL h)).map (·.av)
@[go_sem] def aresL (P:Program) (sl:List AV) (h:List Own):List ResultVar→Option (List AV)
  | []=>some []
  | r::rs=>(ares1 P sl h r).bind fun x=>(aresL P sl h rs).map fun xs=>x::xs
@[go_sem] def aresT:List AV→AV
  | [x]=>x
  | xs => .tup xs
@[go_sem] def ares (P:Program) (rs:List ResultVar) (sl:List AV) (h:List Own):Option AV:=(aresL P sl h rs).map aresT
theorem rT {m:Nm} {h:Hp} {w:World} (rel:Rel m h w) {t:TypeId} {x:AV} {v:Value} {r:Res} (hr:aload P t x h=some r) (hR:R m h w x v) : ∃ u,(do loadVar t (← asAddr v):Sem Value).run P w = .ok u w∧R m h w r.av u:=by
 have H := ov (P := P) (s := [x]) (o := ⟨none, .load t (.tmp 0), 0, "", #[], none⟩) (t := t) (x := .tmp 0) rfl (look := h) (r := r) (by simpa [ae] using hr)
 have hrd : ∀ p∈r.rd,h p.1=p.2:=by
  unfold aload at hr
  split at hr
  ·split at hr
   ·split at hr
    ·rename_i hk
     split at hr
     ·simp only [Option.map_eq_some_iff] at hr
      obtain ⟨_,_,rfl⟩:=hr
      simp [hk]
     ·cases hr
    ·cases hr
   ·split at hr
    ·rename_i hk
     simp only [Option.map_eq_some_iff] at hr
     obtain ⟨_,_,rfl⟩:=hr
     simp [hk]
    ·rename_i hk
     simp only [Option.map_eq_some_iff] at hr
     obtain ⟨_,_,rfl⟩:=hr
     simp [hk]
    ·cases hr
   ·cases hr
  ·cases hr
 -- by the shape of the address
 have hv : ∃ g o,v = .pointer (some ⟨g,o,none⟩):=by
  unfold aload at hr
  split at hr
  ·split at hr
   ·split at hr
    ·rename_i hk
     obtain ⟨e,_⟩:=R.ptr_row rel hk hR
     exact ⟨_,_,e⟩
    ·cases hr
   ·split at hr
    ·rename_i hk
     obtain ⟨g,o,e,_⟩:=R.lptr_row (by rw [hk];trivial) hR
     exact ⟨_,_,e⟩
    ·rename_i hk
     obtain ⟨g,o,e,_⟩:=R.lptr_row (by rw [hk];trivial) hR
     exact ⟨_,_,e⟩
    ·cases hr
   ·cases hr
  ·cases hr
 obtain ⟨g,o,rfl⟩:=hv
 obtain ⟨nx,u,m', w', h1,h2,h3,h4,h5⟩:=H h hrd m w ⟨#[.pointer (some ⟨g,o,none⟩)],[]⟩ rel (fun y hy=>by
  simp [Op.operands] at hy
  subst hy
  simpa [ae,Act.eval] using hR)
 have hT:r.T=[]:=by
  unfold aload at hr
  split at hr
  ·split at hr
   ·split at hr
    ·split at hr
     ·simp only [Option.map_eq_some_iff] at hr
      obtain ⟨_,_,rfl⟩:=hr;rfl
     ·cases hr
    ·cases hr
   ·split at hr
    ·simp only [Option.map_eq_some_iff] at hr
     obtain ⟨_,_,rfl⟩:=hr;rfl
    ·simp only [Option.map_eq_some_iff] at hr
     obtain ⟨_,_,rfl⟩:=hr;rfl
    ·cases hr
   ·cases hr
  ·cases hr
 -- a load leaves the world as it is
 have key : ∀ b n (ha:dH P t=some b) (hs:aY P t=some n) (row:List AV) (off j:Nat) (av:AV),o=off + j→(∀ (j:Nat) (c:AV),row[j]?=some c → ∃ v,w.cell? ⟨g,off + j,none⟩=some v∧R m h w c v) →
  (if b then (if j + n≤row.length then some (AV.agg ((row.drop j).take n)) else none) else row[j]?)=some av → ∃ u,(do loadVar t (← asAddr (.pointer (some ⟨g,o,none⟩))):Sem Value).run P w = .ok u w∧R m h w av u:=by
  intro b n ha hs row off j av e hc hav
  subst e
  obtain ⟨u,u1,u2⟩:=nG ha hs hc hav
  exact ⟨u,by simp [asAddr,u1],u2⟩
 clear h1 h2 h3 h4 h5 H
 unfold aload at hr
 split at hr
 ·rename_i b n ha hs
  split at hr
  ·rename_i p i j
   split at hr
   ·rename_i k hk
    split at hr
    ·rename_i row hrow
     simp only [Option.map_eq_some_iff] at hr
     obtain ⟨av,hav,rfl⟩:=hr
     obtain ⟨e,hc⟩:=R.ptr_row rel hk hR
     simp only [Value.pointer.injEq,Option.some.injEq,Addr.mk.injEq,and_true] at e
     obtain ⟨rfl,e2⟩:=e
     exact key b n ha hs row _ j av e2 (hc row hrow) hav
    ·cases hr
   ·cases hr
  ·rename_i r0 row j
   have fin : ∀ (kd:Own),kd.imm→h r0=kd → ∀ av,(if b then (if j + n≤row.length then some (AV.agg ((row.drop j).take n)) else none) else row[j]?)=some av → ∃ u,(do loadVar t (← asAddr (.pointer (some ⟨g,o,none⟩))):Sem Value).run P w = .ok u w∧R m h w av u:=by
    intro kd hkd hk av hav
    obtain ⟨g', o', e,hc⟩:=R.lptr_row (by rw [hk];exact hkd) hR
    simp only [Value.pointer.injEq,Option.some.injEq,Addr.mk.injEq,and_true] at e
    obtain ⟨rfl,e2⟩:=e
    exact key b n ha hs row o' j av e2 hc hav
   split at hr
   ·rename_i hk
    simp only [Option.map_eq_some_iff] at hr
    obtain ⟨av,hav,rfl⟩:=hr
    exact fin .perm trivial hk av hav
   ·rename_i hk
    simp only [Option.map_eq_some_iff] at hr
    obtain ⟨av,hav,rfl⟩:=hr
    exact fin .uniq trivial hk av hav
   ·cases hr
  ·cases hr
 ·cases hr
def res1 (tmps:Array Value):ResultVar→Sem Value
 | .tmp t=>pure (tmps.getD t undef)
 | .cell b t=>do loadVar t (← asAddr (tmps.getD b undef))
theorem qR (fn:Func) (tmps:Array Value):results fn tmps=(do let vs ← fn.results.mapM (res1 tmps);pure (if h:vs.size=1 then vs[0] else .tuple vs)):=by
 unfold results
 congr 1
theorem nF {m:Nm} {w:World} {sl:List AV} {h:List Own} {a:Act} (st:StR m sl (ofL h) a w) {fn:Func} {av:AV} (hr:ares P fn.results.toList sl h=some av) : ∃ v,(results fn a.tmps).run P w = .ok v w∧R m (ofL h) w av v:=by
 have one : ∀ (r:ResultVar) (x:AV),ares1 P sl h r=some x → ∃ v,(res1 a.tmps r).run P w = .ok v w∧R m (ofL h) w x v:=by
  intro r x hx
  cases r with
  | tmp t=>simp only [ares1,Option.some.injEq] at hx;subst hx;exact ⟨_,by simp [res1],st.slots t⟩
  | cell b t =>
    simp only [ares1,Option.map_eq_some_iff] at hx
    obtain ⟨q,hq,rfl⟩:=hx
    exact rT st.rel hq (st.slots b)
 have many : ∀ (rs:List ResultVar) (xs:List AV),aresL P sl h rs=some xs → ∃ vs:List Value,(rs.mapM (res1 a.tmps)).run P w = .ok vs w ∧
  xs.length=vs.length ∧ ∀ (i:Nat) (c:AV) (v:Value),xs[i]?=some c→vs[i]?=some v→R m (ofL h) w c v:=by
  intro rs
  induction rs with
  | nil=>intro xs hx;simp only [aresL,Option.some.injEq] at hx;subst hx;exact ⟨[],by simp,rfl,by simp⟩
  | cons r rs ih =>
    intro xs hx
    simp only [aresL,Option.bind_eq_some_iff,Option.map_eq_some_iff] at hx
    obtain ⟨x,hx1,xs', hx2,rfl⟩:=hx
    obtain ⟨v,v1,v2⟩:=one r x hx1
    obtain ⟨vs,w1,w2,w3⟩:=ih xs' hx2
    refine ⟨v::vs,?_,by simp [w2],fun i c u h1 h2=>?_⟩
    ·rw [List.mapM_cons]
     simp only [Sem.run_bind,v1,Result.andThen_ok,w1,Sem.run_pure]
    ·cases i with
     | zero=>simp at h1 h2;subst h1 h2;exact v2
     | succ i=>exact w3 i c u (by simpa using h1) (by simpa using h2)
 simp only [ares,Option.map_eq_some_iff] at hr
 obtain ⟨xs,hxs,rfl⟩:=hr
 obtain ⟨vs,h1,h2,h3⟩:=many _ xs hxs
 have hm:(fn.results.mapM (res1 a.tmps)).run P w = .ok vs.toArray w:=by
  rw [Array.mapM_eq_mapM_toList,Sem.run_map,h1]
  rfl
 refine ⟨if h:vs.toArray.size=1 then vs.toArray[0] else .tuple vs.toArray,?_,?_⟩
 ·rw [qR,Sem.run_bind,hm]
  rfl
 ·clear hxs h1 hm
  match xs,vs,h2,h3 with
  | [],[],_,_=>simp only [aresT];exact .tup _ _ (by simp) (by simp)
  | [x],[v],_,h3=>simp only [aresT];simpa using h3 0 x v rfl rfl
  | x::y::xs,v::u::vs,hl,h3 =>
    simp only [aresT]
    rw [dif_neg (by simp)]
    exact .tup _ _ (by simpa using hl) (fun i c v a b=>h3 i c v a (by simpa using b))
def aRet (P:Program) (B:Base) (rs:List ResultVar) (res:AV) (L1:List Own):AExit→ASt→Prop
 | .normal,st => ∃ av,ares P rs st.sl st.h=some av∧ConvS B ⟨[av],st.h⟩ ⟨[res],L1⟩
 | .ret,st => ∃ av,ares P rs st.sl st.h=some av∧ConvS B ⟨[av],st.h⟩ ⟨[res],L1⟩
 | _,_=>False
@[go_sem ↓] theorem aRet_normal (B rs res L1 st):aRet P B rs res L1 .normal st = ∃ av,ares P rs st.sl st.h=some av∧ConvS B ⟨[av],st.h⟩ ⟨[res],L1⟩:=rfl
@[go_sem ↓] theorem aRet_ret (B rs res L1 st):aRet P B rs res L1 .ret st = ∃ av,ares P rs st.sl st.h=some av∧ConvS B ⟨[av],st.h⟩ ⟨[res],L1⟩:=rfl
theorem ACallL.of_awp (hm:P.follows .mixedOrders=true) {f:FuncId} {fn:Func} {c:Code} {args:List AV} {L0:List Own} {res:AV} {L1:List Own} {rs:List ResultVar} {n:Nat} (hf:P.funcs[f]?=some fn) (hb:fn.body=some c) (hc:cn P f)
 (hrs:fn.results.toList=rs) (hn:fn.ntmps=n) (h : ∀ B:Base,B.h=ofL L0→awp P B c (aRet P B rs res L1) (args ++ List.replicate (n - args.length) (.val undef)) L0):ACallL P f args L0 res L1:=by
 subst hrs hn
 refine ⟨hc,fun m w vs rel hl=>?_⟩
 let B:Base:=⟨m,ofL L0,w,rel⟩
 have H:=bC hm (B:=B) c _ ⟨_,_⟩ (h B rfl)
 refine calls_of_wp hf hb (wp_mono (H m w _ ⟨rel,fun t=>?_,by simp [hl.1],rfl⟩ (Ev.refl _ _ _)) ?_)
 ·by_cases ht:t < args.length
  ·have e1:(args ++ List.replicate (fn.ntmps - args.length) (AV.val undef)).getD t (.val undef)=args[t]:=by simp [List.getD,List.getElem?_append_left,ht]
   have hts:t < vs.size:=by rw [← hl.1];exact ht
   have e2:(vs ++ Array.replicate (fn.ntmps - vs.size) undef).getD t undef=vs[t]:=by
    simp only [Array.getD_eq_getD_getElem?,Array.getElem?_append_left hts,Array.getElem?_eq_getElem hts,Option.getD_some]
   simp only
   rw [e1,e2]
   exact hl.2 t _ _ (List.getElem?_eq_getElem ht) (Array.getElem?_eq_getElem hts)
  ·have e1:(args ++ List.replicate (fn.ntmps - args.length) (AV.val undef)).getD t (.val undef) = .val undef:=by
    simp only [List.getD_eq_getElem?_getD,List.getElem?_append_right (Nat.le_of_not_lt ht),List.getElem?_replicate]
    split<;>rfl
   have e2:(vs ++ Array.replicate (fn.ntmps - vs.size) undef).getD t undef=undef:=by
    simp only [Array.getD_eq_getD_getElem?]
    rw [Array.getElem?_append_right (by rw [← hl.1];omega),Array.getElem?_replicate]
    split<;>rfl
   simp only
   rw [e1,e2]
   exact .val _
 ·rintro e a' w' ⟨e', st', m', rfl,hq,hs', ev⟩
  have fin:(∃ av,ares P fn.results.toList st'.sl st'.h=some av∧ConvS B ⟨[av],st'.h⟩ ⟨[res],L1⟩)→a'.defers=[] ∧ ∃ v,(results fn a'.tmps).run P w' = .ok v w' ∧ ∃ v' m', Ending.returned v = .returned v' ∧ Rel m' (ofL L1) w' ∧ Ev m (ofL L0) w m' (ofL L1) w' ∧ R m' (ofL L1) w' res v' := by
   rintro ⟨av,hav,hcv⟩
   obtain ⟨v,hv,hR⟩:=nF hs' hav
   obtain ⟨m2,hs2,ev2⟩:=hcv m' w' ⟨#[v],[]⟩ ⟨hs'.rel,fun t=>by
    cases t with
    | zero=>simpa using hR
    | succ t=>simp;exact .val _,rfl,rfl⟩ ev
   refine ⟨hs'.defers,v,hv,v,m2,rfl,hs2.rel,ev2,?_⟩
   simpa using hs2.slots 0
  cases e' with
  | normal=>exact fin hq
  | ret=>exact fin hq
  | exit id=>exact hq.elim
  | goto l=>exact hq.elim
end
theorem Ren.congr {q:Rn} {h h' : Hp} (hF : ∀ x y,q.F x y→h' x=h x) {c c' : AV} (hr:Ren q h c c'):Ren q h' c c' := by
 induction hr with
 | any c=>exact .any c
 | val v=>exact .val v
 | agg cs cs' hl hc ih=>exact .agg cs cs' hl ih
 | tup cs cs' hl hc ih=>exact .tup cs cs' hl ih
 | ptr b b' i j hb=>exact .ptr b b' i j hb
 | sl b b' i n hb=>exact .sl b b' i n hb
 | nil r r' sz hr=>exact .nil r r' sz hr
 | vnil r sz=>exact .vnil r sz
 | list r r' sz rows rows' hr hl hw hc ih=>exact .list r r' sz rows rows' hr hl hw ih
 | glist r r' sz rows rows' hr hl hw hc ih=>exact .glist r r' sz rows rows' hr hl hw ih
 | gl r sz rows c' hh ih=>exact .gl r sz rows c' ih
 | vgnil r sz=>exact .vgnil r sz
 | frzg b r i n k rows' hr hb hl hw hc ih=>exact .frzg b r i n k rows' hr (by rw [hF b r hr];exact hb) hl hw ih
 | frz b r i n k rows' hr hb hl hw hc ih=>exact .frz b r i n k rows' hr (by rw [hF b r hr];exact hb) hl hw ih
 | lptr r r' j row row' hr hl hc ih=>exact .lptr r r' j row row' hr hl ih
 | clo f cs cs' hl hc ih=>exact .clo f cs cs' hl ih
theorem RowsRen.congr {q:Rn} {h h' : Hp} (hF : ∀ x y,q.F x y→h' x=h x) {rows rows' : List (List AV)} (hr:RowsRen q h rows rows'):RowsRen q h' rows rows' :=
 ⟨hr.1,hr.2.1,fun i j row row' c c' a b d e=>(hr.2.2 i j row row' c c' a b d e).congr hF⟩
theorem nH (f:Nat→Own) : ∀ (l:List Nat) (h:Hp) (y:Nat),h.upds (l.map fun x=>(x,f x)) y=if y∈l then f y else h y
 | [],h,y=>by simp [Hp.upds]
 | x::l,h,y=>by
   show (h.upd x (f x)).upds (l.map fun x=>(x,f x)) y=_
   rw [nH f l]
   by_cases hy:y∈l
   ·simp [hy]
   ·by_cases e:y=x
    ·subst e;simp [hy,Hp.upd_same]
    ·simp [hy,e,Hp.upd_ne _ _ e]
def qIn (own imm bor:List (Nat × Nat)):Rn:=⟨fun x k=>(k,x)∈own,fun x k=>(k,x)∈imm,fun x k=>(k,x)∈bor⟩
def qOut (L1:Hp) (own imm bor fr:List (Nat × Nat)):Rn :=
 ⟨fun k x=>((k,x)∈own∨(k,x)∈fr) ∧ ∃ b,L1 k = .live b,fun k x=>((k,x)∈fr∧L1 k = .uniq)∨((k,x)∈imm∧(∀ x', (k,x')∈imm→x' = x)∧(∀ x', (k,x') ∉ bor)∧(L1 k).imm),fun _ _=>False⟩
structure CallFit (L0 L1 ho ho' : Hp) (own imm bor eat fr:List (Nat × Nat)):Prop where
 q:RnOk ho L0 (qIn own imm bor)
 perm : ∀ k,(L0 k).imm→L1 k=L0 k∨(L0 k = .uniq∧L1 k = .dead)
 bor0 : ∀ k x,(k,x)∈bor→L0 k = .perm
 eat1 : ∀ k x,(k,x)∈eat→(k,x)∈imm∧L0 k = .uniq∧L1 k = .dead∧ho' x = .dead
 eat2 : ∀ k x,(k,x)∈imm→L0 k = .uniq→L1 k = .dead→(k,x)∈eat
 fr0 : ∀ k x,(k,x)∈fr→L0 k = .unused∧ho x = .unused
 fr1 : ∀ k k' x,(k,x)∈fr→(k', x)∈fr→k=k'
 fr2 : ∀ k x x', (k,x)∈fr→(k,x')∈fr→x=x'
 ownAft : ∀ k x,(k,x)∈own→(∃ k1 kx', L1 k = .live k1∧ho' x = .live kx' ∧ kx'.sz=k1.sz∧kx'.elem=k1.elem∧RowsRen (qOut L1 own imm bor fr) L1 k1.rows kx'.rows)∨(L1 k = .dead∧ho' x = .dead)
 frAft : ∀ k x,(k,x)∈fr→(∃ k1 kx', L1 k = .live k1∧ho' x = .live kx' ∧ kx'.sz=k1.sz∧kx'.elem=k1.elem∧RowsRen (qOut L1 own imm bor fr) L1 k1.rows kx'.rows)∨(L1 k = .uniq∧ho' x = .uniq)
section
variable {P:Program}
open Classical in
theorem ACall.of {f:FuncId} {args:List AV} {L0 L1:List Own} {res:AV} (H:ACallL P f args L0 res L1) {ho ho' : Hp} {own imm bor eat fr:List (Nat × Nat)} (cf:CallFit (ofL L0) (ofL L1) ho ho' own imm bor eat fr) {aa:List AV} {res' : AV}
 (hargs:ke (qIn own imm bor) ho aa args) (hres:Ren (qOut (ofL L1) own imm bor fr) (ofL L1) res res') :
 ACall P f aa ((own.map fun p=>(p.2,ho p.2)) ++ (imm.map fun p=>(p.2,ho p.2)) ++ (bor.map fun p=>(p.2,ho p.2)) ++ fr.map fun p=>(p.2,.unused)) ((own.map (·.2) ++ eat.map (·.2) ++ fr.map (·.2)).map fun x=>(x,ho' x)) res' := by
 refine ⟨H.1,fun h m w vs hrd rel hl=>?_⟩
 have hO : ∀ k x,(k,x)∈own→h x=ho x:=fun k x hx=>hrd (x,ho x) (by simp only [List.mem_append,List.mem_map];exact .inl (.inl (.inl ⟨(k,x),hx,rfl⟩)))
 have hI : ∀ k x,(k,x)∈imm→h x=ho x:=fun k x hx=>hrd (x,ho x) (by simp only [List.mem_append,List.mem_map];exact .inl (.inl (.inr ⟨(k,x),hx,rfl⟩)))
 have hB : ∀ k x,(k,x)∈bor→h x=ho x:=fun k x hx=>hrd (x,ho x) (by simp only [List.mem_append,List.mem_map];exact .inl (.inr ⟨(k,x),hx,rfl⟩))
 have hFr : ∀ k x,(k,x)∈fr→h x = .unused:=fun k x hx=>hrd (x,.unused) (by simp only [List.mem_append,List.mem_map];exact .inr ⟨(k,x),hx,rfl⟩)
 have noF : ∀ x y,(qIn own imm bor).F x y→h x=ho x:=fun x y hxy=>hB y x hxy
 -- the names as the callee has them
 have okq:RnOk h (ofL L0) (qIn own imm bor):=by
  refine ⟨fun y k' hy=>?_,fun x y hxy=>?_,cf.q.L1,cf.q.L2,fun x y hxy=>?_,cf.q.I2,fun x y hxy=>?_,cf.q.F2,cf.q.FL⟩
  ·obtain ⟨x,k,h1,h2,h3,h4,h5⟩:=cf.q.live y k' hy
   exact ⟨x,k,h1,by rw [hO y x h1];exact h2,h3,h4,h5.congr noF⟩
  ·obtain ⟨k,k', h1,h2⟩:=cf.q.L x y hxy
   exact ⟨k,k', by rw [hO y x hxy];exact h1,h2⟩
  ·obtain ⟨h1,h2,h3⟩:=cf.q.I x y hxy
   rw [hI y x hxy]
   exact ⟨h1,h2,h3⟩
  ·obtain ⟨⟨k,h1⟩,h2⟩:=cf.q.F x y hxy
   exact ⟨⟨k,by rw [hB y x hxy];exact h1⟩,h2⟩
 have rb:RnB (fun _ => .unused) h (ofL L0) (qIn own imm bor):=⟨okq,fun x y _ hb=>absurd rfl hb,fun x y _ hb=>absurd rfl hb,fun y hb=>absurd rfl hb,fun x y hf=>rfl,fun y hb=>absurd rfl hb,fun x y _ _ _ hb=>absurd rfl hb⟩
 have nm:=Nm.turn_ok (m:=m) rb
 have relS:=rel.ren okq nm
 generalize hmS:m.turn (fun _ => .unused) (qIn own imm bor)=mS at nm relS
 have cmpS:=nm.cmp okq
 refine (H.2 mS w vs relS ⟨hargs.1.symm.trans hl.1,fun i c' v h1 h2=>?_⟩).mono ?_
 ·have hlt:i < aa.length:=by rw [hargs.1];exact (List.getElem?_eq_some_iff.1 h1).1
  have ha:=List.getElem?_eq_getElem hlt
  exact R.ren rel cmpS ((hargs.2 i _ c' ha h1).congr noF) (hl.2 i _ v ha h2)
 rintro e w' ⟨v,m1,rfl,rel1,ev1,hR1⟩
 refine ⟨v,?_⟩
 -- places of the names that go in
 have plO : ∀ k x,(k,x)∈own→mS.pl k=m.pl x:=fun k x hx=>nm.pl x k hx
 have setI : ∀ k g,((ofL L0) k).imm→(mS.set k g ↔ (∃ x,(k,x)∈imm∧m.set x g) ∨ ∃ x,(k,x)∈bor∧g=(m.pl x).1):=fun k g hi=>nm.set k g hi
 have liveS : ∀ k b,(ofL L0) k = .live b → ∃ x kx,(k,x)∈own∧h x = .live kx:=fun k b hk=>by
  obtain ⟨x,kx,h1,h2,_⟩:=okq.live k b hk
  exact ⟨x,kx,h1,h2⟩
 have ownL : ∀ k x,(k,x)∈own → ∃ kx k0,h x = .live kx∧(ofL L0) k = .live k0∧k0.sz=kx.sz∧k0.elem=kx.elem∧kx.rows.length=k0.rows.length:=fun k x hx=>by
  obtain ⟨kx,k0,h1,h2⟩:=okq.L x k hx
  obtain ⟨x2,kx2,h3,h4,h5,h6,h7⟩:=okq.live k k0 h2
  have:=okq.L1 x x2 k hx h3
  subst this
  rw [h1] at h4;cases h4
  exact ⟨kx,k0,h1,h2,h5,h6,h7.1⟩
 have usedS : ∀ k,(ofL L0) k ≠ .unused → ∀ q,(ofL L0) k=q→m1.pl k=mS.pl k∧m1.set k=mS.set k:=fun k hk q _=>⟨ev1.pl k hk,ev1.set k hk⟩
 -- the heap behind it
 let h' : Hp:=h.upds ((own.map (·.2) ++ eat.map (·.2) ++ fr.map (·.2)).map fun x=>(x,ho' x))
 have hT : ∀ y,h' y=if y∈(own.map (·.2) ++ eat.map (·.2) ++ fr.map (·.2)) then ho' y else h y:=fun y=>nH ho' _ h y
 have h'O : ∀ k x,(k,x)∈own→h' x=ho' x:=fun k x hx=>by rw [hT,if_pos (List.mem_append_left _ (List.mem_append_left _ (List.mem_map.2 ⟨(k,x),hx,rfl⟩)))]
 have h'E : ∀ k x,(k,x)∈eat→h' x = .dead:=fun k x hx=>by rw [hT,if_pos (List.mem_append_left _ (List.mem_append_right _ (List.mem_map.2 ⟨(k,x),hx,rfl⟩)))];exact (cf.eat1 k x hx).2.2.2
 have h'F : ∀ k x,(k,x)∈fr→h' x=ho' x:=fun k x hx=>by rw [hT,if_pos (List.mem_append_right _ (List.mem_map.2 ⟨(k,x),hx,rfl⟩))]
 have h'N : ∀ y,(∀ k,(k,y) ∉ own)→(∀ k,(k,y) ∉ eat)→(∀ k,(k,y) ∉ fr)→h' y=h y:=fun y h1 h3 h2=>by
  rw [hT,if_neg]
  simp only [List.mem_append,List.mem_map,not_or]
  exact ⟨⟨fun ⟨⟨k,x⟩,hx,e⟩=>h1 k (by simp only at e;subst e;exact hx),fun ⟨⟨k,x⟩,hx,e⟩=>h3 k (by simp only at e;subst e;exact hx)⟩,fun ⟨⟨k,x⟩,hx,e⟩=>h2 k (by simp only at e;subst e;exact hx)⟩
 have ofr : ∀ k k' x,(k,x)∈own→(k', x) ∉ fr:=fun k k' x ho hf=>by
  obtain ⟨kx,_,h1,_⟩:=ownL k x ho
  rw [hFr k' x hf] at h1;cases h1
 -- what is eaten
 have eatU : ∀ k x,(k,x)∈eat→h x = .uniq:=fun k x hx=>by
  obtain ⟨h1,h2,_⟩:=cf.eat1 k x hx
  exact (okq.I x k h1).2.2 h2
 have eown : ∀ k k' x,(k,x)∈own→(k', x) ∉ eat:=fun k k' x ho he=>by
  obtain ⟨kx,_,h1,_⟩:=ownL k x ho
  rw [eatU k' x he] at h1;cases h1
 have efr : ∀ k k' x,(k,x)∈eat→(k', x) ∉ fr:=fun k k' x he hf=>by
  have:=eatU k x he
  rw [hFr k' x hf] at this;cases this
 -- the places behind it
 let m' : Nm:=⟨fun y=>if h : ∃ k,(k,y)∈fr then m1.pl h.choose else m.pl y,fun y=>if h : ∃ k,(k,y)∈fr then m1.set h.choose else m.set y⟩
 have m'F : ∀ k x,(k,x)∈fr→m'.pl x=m1.pl k∧m'.set x=m1.set k:=fun k x hx=>by
  have hex : ∃ k,(k,x)∈fr:=⟨k,hx⟩
  have e:=cf.fr1 _ k x hex.choose_spec hx
  constructor
  ·show (if h : ∃ k,(k,x)∈fr then m1.pl h.choose else m.pl x)=_
   rw [dif_pos hex,e]
  ·show (if h : ∃ k,(k,x)∈fr then m1.set h.choose else m.set x)=_
   rw [dif_pos hex,e]
 have m'N : ∀ y,(∀ k,(k,y) ∉ fr)→m'.pl y=m.pl y∧m'.set y=m.set y:=fun y hy=>by
  have hex : ¬ ∃ k,(k,y)∈fr:=fun ⟨k,hk⟩=>hy k hk
  constructor
  ·show (if h : ∃ k,(k,y)∈fr then m1.pl h.choose else m.pl y)=_
   rw [dif_neg hex]
  ·show (if h : ∃ k,(k,y)∈fr then m1.set h.choose else m.set y)=_
   rw [dif_neg hex]
 have nfr : ∀ y,h y ≠ .unused → ∀ k,(k,y) ∉ fr:=fun y hy k hk=>hy (hFr k y hk)
 have pl1 : ∀ k x,(k,x)∈own→m1.pl k=m.pl x:=fun k x hx=>by
  obtain ⟨_,k0,_,h2,_⟩:=ownL k x hx
  rw [ev1.pl k (by rw [h2];simp),plO k x hx]
 -- what was struck was eaten
 have killed : ∀ r g,(ofL L0) r = .uniq→(ofL L1) r ≠ .uniq→mS.set r g → ∃ x,(r,x)∈eat∧m.set x g:=fun r g hr hd hs=>by
  rcases (setI r g (by rw [hr];trivial)).1 hs with ⟨x,h1,h2⟩|⟨x,h1,_⟩
  ·rcases cf.perm r (by rw [hr];trivial) with e|⟨_,e⟩
   ·exact absurd (e.trans hr) hd
   ·exact ⟨x,cf.eat2 r x h1 hr e,h2⟩
  ·have:=cf.bor0 r x h1
   rw [hr] at this;cases this
 have frame : ∀ g,g < w.heap.size→(∀ k x,(k,x)∈own→(m.pl x).1≠g)→(∀ k x,(k,x)∈eat → ¬ m.set x g)→w'.heap[g]?=w.heap[g]?:=fun g hg ho he=>by
  refine ev1.frame g hg (fun k b hk e=>?_) (fun r hr hs=>?_)
  ·obtain ⟨x,kx,h1,h2⟩:=liveS k b hk
   rw [plO k x h1] at e
   exact ho k x h1 e
  ·by_cases hd:(ofL L1) r = .uniq
   ·exact hd
   ·obtain ⟨x,h1,h2⟩:=killed r g hr hd hs
    exact absurd h2 (he r x h1)
 -- a name that is new lies in new memory,or where a name lay that went in
 have newPl : ∀ k b x,(k,x)∈fr→(ofL L1) k = .live b→w.heap.size≤(m1.pl k).1∨(∃ k2 x2 kx,(k2,x2)∈own∧h x2 = .live kx∧(m.pl x2).1=(m1.pl k).1) ∨ ∃ k2 x2,(k2,x2)∈eat∧m.set x2 (m1.pl k).1:=fun k b x hx hk=>by
  rcases ev1.new k b (cf.fr0 k x hx).1 hk with h|⟨i,ki,hi,e⟩|⟨r,hr,hd,hs⟩
  ·exact .inl h
  ·obtain ⟨x2,kx,h1,h2⟩:=liveS i ki hi
   exact .inr (.inl ⟨i,x2,kx,h1,h2,by rw [← plO i x2 h1];exact e⟩)
  ·obtain ⟨x2,h1,h2⟩:=killed r _ hr (by rw [hd];simp) hs
   exact .inr (.inr ⟨r,x2,h1,h2⟩)
 have newSet : ∀ k x g,(k,x)∈fr→(ofL L1) k = .uniq→m1.set k g→w.heap.size≤g∨(∃ k2 x2 kx,(k2,x2)∈own∧h x2 = .live kx∧(m.pl x2).1=g) ∨ ∃ k2 x2,(k2,x2)∈eat∧m.set x2 g:=fun k x g hx hk hs=>by
  rcases ev1.newU k g (cf.fr0 k x hx).1 hk hs with h|⟨i,ki,hi,e⟩|⟨r,hr,hd,hs'⟩
  ·exact .inl h
  ·obtain ⟨x2,kx,h1,h2⟩:=liveS i ki hi
   exact .inr (.inl ⟨i,x2,kx,h1,h2,by rw [← plO i x2 h1];exact e⟩)
  ·obtain ⟨x2,h1,h2⟩:=killed r _ hr (by rw [hd];simp) hs'
   exact .inr (.inr ⟨r,x2,h1,h2⟩)
 have ev:Ev m h w m' h' w' := by
  refine ⟨fun y hy=>(m'N y (nfr y hy)).1,fun y hy=>(m'N y (nfr y hy)).2,fun y=>?_,ev1.size,?_,?_,?_,?_,ev1.os,ev1.tape,ev1.output⟩
  ·by_cases ho : ∃ k,(k,y)∈own
   ·obtain ⟨k,hk⟩:=ho
    rw [h'O k y hk]
    obtain ⟨kx,k0,h1,h2,h3,h4,h5⟩:=ownL k y hk
    rw [h1]
    rcases cf.ownAft k y hk with ⟨k1,kx', a1,a2,a3,a4,a5⟩|⟨a1,a2⟩
    ·rw [a2]
     have hg:=ev1.kind k
     rw [h2,a1] at hg
     exact ⟨by rw [a3,hg.1,h3],by rw [h5, ← a5.1];exact hg.2⟩
    ·rw [a2];trivial
   ·by_cases hf : ∃ k,(k,y)∈fr
    ·obtain ⟨k,hk⟩:=hf
     rw [hFr k y hk];trivial
    ·by_cases he : ∃ k,(k,y)∈eat
     ·obtain ⟨k,hk⟩:=he
      rw [h'E k y hk,eatU k y hk];trivial
     ·rw [h'N y (fun k hk=>ho ⟨k,hk⟩) (fun k hk=>he ⟨k,hk⟩) (fun k hk=>hf ⟨k,hk⟩)]
      exact Own.goes_refl _
  ·intro id b b' h1 h2 cur e f hc
   by_cases ho : ∃ k,(k,id)∈own
   ·obtain ⟨k,hk⟩:=ho
    obtain ⟨kx,k0,g1,g2,_⟩:=ownL k id hk
    rw [h'O k id hk] at h2
    rcases cf.ownAft k id hk with ⟨k1,kx', a1,_⟩|⟨_,a2⟩
    ·rw [← plO k id hk] at hc ⊢
     exact ev1.cells k k0 k1 g2 a1 cur e f hc
    ·rw [a2] at h2;cases h2
   ·have hlt:(m.pl id).1 < w.heap.size:=by
     obtain ⟨c,hcc,_⟩:=rel.own id b h1
     exact (Array.getElem?_eq_some_iff.1 hcc).1
    rw [frame _ hlt (fun k x hx e=>by
     obtain ⟨kx,_,g1,_⟩:=ownL k x hx
     have:=rel.sep x id kx b g1 h1 e
     subst this
     exact ho ⟨k,hx⟩) (fun k x hx=>rel.sepR id b x h1 (by rw [eatU k x hx];trivial))] at hc
    exact ⟨cur,e,f,hc,rfl⟩
  ·intro g hg ho hu
   refine frame g hg (fun k x hx e=>?_) fun k x hx hs=>?_
   ·obtain ⟨kx,_,g1,_⟩:=ownL k x hx
    exact ho x kx g1 e
   ·have:=hu x (eatU k x hx) hs
    rw [h'E k x hx] at this;cases this
  ·intro y b h1 h2
   by_cases hf : ∃ k,(k,y)∈fr
   ·obtain ⟨k,hk⟩:=hf
    rw [(m'F k y hk).1]
    rw [h'F k y hk] at h2
    rcases cf.frAft k y hk with ⟨k1,kx', a1,a2,_⟩|⟨a1,a2⟩
    ·rcases newPl k k1 y hk a1 with h|⟨k2,x2,kx,g1,g2,g3⟩|⟨k2,x2,g1,g2⟩
     ·exact .inl h
     ·exact .inr (.inl ⟨x2,kx,g2,g3⟩)
     ·exact .inr (.inr ⟨x2,eatU k2 x2 g1,h'E k2 x2 g1,g2⟩)
    ·rw [a2] at h2;cases h2
   ·exfalso
    by_cases ho : ∃ k,(k,y)∈own
    ·obtain ⟨k,hk⟩:=ho
     obtain ⟨kx,_,g1,_⟩:=ownL k y hk
     rw [h1] at g1;cases g1
    ·by_cases he : ∃ k,(k,y)∈eat
     ·obtain ⟨k,hk⟩:=he
      rw [h'E k y hk] at h2;cases h2
     ·rw [h'N y (fun k hk=>ho ⟨k,hk⟩) (fun k hk=>he ⟨k,hk⟩) (fun k hk=>hf ⟨k,hk⟩),h1] at h2;cases h2
  ·intro y g h1 h2 hs
   by_cases hf : ∃ k,(k,y)∈fr
   ·obtain ⟨k,hk⟩:=hf
    rw [(m'F k y hk).2] at hs
    rw [h'F k y hk] at h2
    rcases cf.frAft k y hk with ⟨k1,kx', a1,a2,_⟩|⟨a1,a2⟩
    ·rw [a2] at h2;cases h2
    ·rcases newSet k y g hk a1 hs with h|⟨k2,x2,kx,g1,g2,g3⟩|⟨k2,x2,g1,g2⟩
     ·exact .inl h
     ·exact .inr (.inl ⟨x2,kx,g2,g3⟩)
     ·exact .inr (.inr ⟨x2,eatU k2 x2 g1,h'E k2 x2 g1,g2⟩)
   ·exfalso
    by_cases ho : ∃ k,(k,y)∈own
    ·obtain ⟨k,hk⟩:=ho
     obtain ⟨kx,_,g1,_⟩:=ownL k y hk
     rw [h1] at g1;cases g1
    ·by_cases he : ∃ k,(k,y)∈eat
     ·obtain ⟨k,hk⟩:=he
      rw [h'E k y hk] at h2;cases h2
     ·rw [h'N y (fun k hk=>ho ⟨k,hk⟩) (fun k hk=>he ⟨k,hk⟩) (fun k hk=>hf ⟨k,hk⟩),h1] at h2;cases h2
 -- the callee's data as the caller's
 have cmpO:Cmp m1 (ofL L1) m' h' (qOut (ofL L1) own imm bor fr):=by
  refine ⟨fun k x hkx=>?_,fun k x hkx=>?_,fun k x hkx=>hkx.elim⟩
  ·obtain ⟨hm,b,hb⟩:=hkx
   rcases hm with hm|hm
   ·rcases cf.ownAft k x hm with ⟨k1,kx', a1,a2,a3,a4,a5⟩|⟨a1,_⟩
    ·refine ⟨k1,kx', a1,by rw [h'O k x hm];exact a2,a3,by rw [a5.1];exact Nat.le_refl _,?_⟩
     rw [(m'N x (fun k' hk' => ofr k k' x hm hk')).1,pl1 k x hm]
    ·rw [hb] at a1;cases a1
   ·rcases cf.frAft k x hm with ⟨k1,kx', a1,a2,a3,a4,a5⟩|⟨a1,_⟩
    ·exact ⟨k1,kx', a1,by rw [h'F k x hm];exact a2,a3,by rw [a5.1];exact Nat.le_refl _,(m'F k x hm).1⟩
    ·rw [hb] at a1;cases a1
  ·rcases hkx with ⟨hm,hu⟩|⟨hm,huniq,hnb,h1i⟩
   ·rcases cf.frAft k x hm with ⟨k1,kx', a1,_⟩|⟨a1,a2⟩
    ·rw [hu] at a1;cases a1
    ·refine ⟨by rw [a1];trivial,by rw [h'F k x hm,a2];trivial,fun g hg=>by rw [(m'F k x hm).2];exact hg⟩
   ·obtain ⟨i1,i2,i3⟩:=okq.I x k hm
    have e1:(ofL L1) k=(ofL L0) k:=by
     rcases cf.perm k i2 with e|⟨_,e⟩
     ·exact e
     ·rw [e] at h1i;exact h1i.elim
    have hxe : ∀ k', (k', x) ∉ eat:=fun k' hk' => by
     obtain ⟨f1,f2,f3,_⟩:=cf.eat1 k' x hk'
     have:=cf.q.I2 x k' k f1 hm f2
     subst this
     rw [f3] at h1i;exact h1i
    have hxo : ∀ k', (k', x) ∉ own:=fun k' hk' => by
     obtain ⟨kx,_,g1,_⟩:=ownL k' x hk'
     rw [g1] at i1;exact i1
    have hxu:h x ≠ .unused:=by intro e;rw [e] at i1;exact i1
    have hxf : ∀ k', (k', x) ∉ fr:=nfr x hxu
    refine ⟨by rw [e1];exact i2,by rw [h'N x hxo hxe hxf];exact i1,fun g hg=>?_⟩
    have hk:(ofL L0) k ≠ .unused:=by intro e;rw [e] at i2;exact i2
    rw [(m'N x hxf).2]
    rw [ev1.set k hk] at hg
    rcases (setI k g i2).1 hg with ⟨x', hx', hg'⟩|⟨x', hx', _⟩
    ·rw [huniq x' hx'] at hg'
     exact hg'
    ·exact absurd hx' (hnb x')
 refine ⟨m', rfl,?_,ev,R.ren rel1 cmpO hres hR1⟩
 -- the names lie as they should
 have live' : ∀ y b,h' y = .live b→(∃ k k1,(k,y)∈own∧(ofL L1) k = .live k1∧m'.pl y=m1.pl k∧b.sz=k1.sz∧b.elem=k1.elem∧RowsRen (qOut (ofL L1) own imm bor fr) (ofL L1) k1.rows b.rows∧m'.pl y=m.pl y ∧ ∃ kx,h y = .live kx) ∨
  (∃ k k1,(k,y)∈fr∧(ofL L1) k = .live k1∧m'.pl y=m1.pl k∧b.sz=k1.sz∧b.elem=k1.elem∧RowsRen (qOut (ofL L1) own imm bor fr) (ofL L1) k1.rows b.rows) ∨
  ((∀ k,(k,y) ∉ own)∧h y = .live b∧m'.pl y=m.pl y):=by
  intro y b hy
  by_cases ho : ∃ k,(k,y)∈own
  ·obtain ⟨k,hk⟩:=ho
   rw [h'O k y hk] at hy
   rcases cf.ownAft k y hk with ⟨k1,kx', a1,a2,a3,a4,a5⟩|⟨a1,a2⟩
   ·rw [a2] at hy;cases hy
    have e:=(m'N y (fun k' hk' => ofr k k' y hk hk')).1
    obtain ⟨kx,_,g1,_⟩:=ownL k y hk
    exact .inl ⟨k,k1,hk,a1,by rw [e,pl1 k y hk],a3,a4,a5,e,kx,g1⟩
   ·rw [a2] at hy;cases hy
  ·by_cases hf : ∃ k,(k,y)∈fr
   ·obtain ⟨k,hk⟩:=hf
    rw [h'F k y hk] at hy
    rcases cf.frAft k y hk with ⟨k1,kx', a1,a2,a3,a4,a5⟩|⟨a1,a2⟩
    ·rw [a2] at hy;cases hy
     exact .inr (.inl ⟨k,k1,hk,a1,(m'F k y hk).1,a3,a4,a5⟩)
    ·rw [a2] at hy;cases hy
   ·have hno : ∀ k,(k,y) ∉ own:=fun k hk=>ho ⟨k,hk⟩
    have hnf : ∀ k,(k,y) ∉ fr:=fun k hk=>hf ⟨k,hk⟩
    by_cases he : ∃ k,(k,y)∈eat
    ·obtain ⟨k,hk⟩:=he
     rw [h'E k y hk] at hy;cases hy
    ·rw [h'N y hno (fun k hk=>he ⟨k,hk⟩) hnf] at hy
     exact .inr (.inr ⟨hno,hy,(m'N y hnf).1⟩)
 have imm' : ∀ y,(h' y).imm→(∃ k,(k,y)∈fr∧(ofL L1) k = .uniq∧m'.set y=m1.set k∧h' y = .uniq)∨((h y).imm∧h' y=h y∧m'.set y=m.set y∧(∀ k,(k,y) ∉ own) ∧ ∀ k,(k,y) ∉ eat):=by
  intro y hy
  by_cases ho : ∃ k,(k,y)∈own
  ·obtain ⟨k,hk⟩:=ho
   rw [h'O k y hk] at hy
   rcases cf.ownAft k y hk with ⟨k1,kx', a1,a2,_⟩|⟨a1,a2⟩<;>rw [a2] at hy<;>exact hy.elim
  ·by_cases hf : ∃ k,(k,y)∈fr
   ·obtain ⟨k,hk⟩:=hf
    rw [h'F k y hk] at hy
    rcases cf.frAft k y hk with ⟨k1,kx', a1,a2,_⟩|⟨a1,a2⟩
    ·rw [a2] at hy;exact hy.elim
    ·exact .inl ⟨k,hk,a1,(m'F k y hk).2,by rw [h'F k y hk];exact a2⟩
   ·have hno : ∀ k,(k,y) ∉ own:=fun k hk=>ho ⟨k,hk⟩
    have hnf : ∀ k,(k,y) ∉ fr:=fun k hk=>hf ⟨k,hk⟩
    by_cases he : ∃ k,(k,y)∈eat
    ·obtain ⟨k,hk⟩:=he
     rw [h'E k y hk] at hy;exact hy.elim
    ·have e:=h'N y hno (fun k hk=>he ⟨k,hk⟩) hnf
     rw [e] at hy
     exact .inr ⟨hy,e,(m'N y hnf).2,hno,fun k hk=>he ⟨k,hk⟩⟩
 have ltO : ∀ x k', h x = .live k' → (m.pl x).1 < w.heap.size:=fun x k' hx=>by
  obtain ⟨c,h1,_⟩:=rel.own x k' hx
  exact (Array.getElem?_eq_some_iff.1 h1).1
 have far : ∀ y b,(∀ k,(k,y) ∉ own)→h y = .live b→w'.heap[(m.pl y).1]?=w.heap[(m.pl y).1]?:=fun y b hno hy=>frame _ (ltO y b hy) (fun k x hx e=>by
  obtain ⟨kx,_,g1,_⟩:=ownL k x hx
  have:=rel.sep x y kx b g1 hy e
  subst this
  exact hno k hx) fun k x hx=>rel.sepR y b x hy (by rw [eatU k x hx];trivial)
 have rowsOk : ∀ (y k:Nat) (k1 b:Blk),(ofL L1) k = .live k1→m'.pl y=m1.pl k→b.sz=k1.sz→b.elem=k1.elem→RowsRen (qOut (ofL L1) own imm bor fr) (ofL L1) k1.rows b.rows →
  ∃ cur,w'.heap[(m'.pl y).1]?=some (.cells cur b.elem (0,0))∧(m'.pl y).2 + b.rows.length * b.sz≤cur.size∧(∀ row,row∈b.rows→row.length=b.sz) ∧
   ∀ (i j:Nat) (row:List AV) (c:AV),b.rows[i]?=some row→row[j]?=some c → ∃ v,cur[(m'.pl y).2 + i * b.sz + j]?=some v∧R m' h' w' c v:=by
  intro y k k1 b hk hpl hsz hel hr
  obtain ⟨cur,c1,c2,c3,c4⟩:=rel1.own k k1 hk
  refine ⟨cur,by rw [hpl,hel];exact c1,by rw [hpl,hsz, ← hr.1];exact c2,fun row' hm=>?_,fun i j row' c' a d=>?_⟩
  ·obtain ⟨i,hi⟩:=List.getElem?_of_mem hm
   have hlt:i < k1.rows.length:=by rw [hr.1];exact (List.getElem?_eq_some_iff.1 hi).1
   rw [← hr.2.1 i _ row' (List.getElem?_eq_getElem hlt) hi,hsz]
   exact c3 _ (List.getElem_mem hlt)
  ·have hlt:i < k1.rows.length:=by rw [hr.1];exact (List.getElem?_eq_some_iff.1 a).1
   have hrow:=List.getElem?_eq_getElem hlt
   have hlj:j < (k1.rows[i]).length:=by rw [hr.2.1 i _ row' hrow a];exact (List.getElem?_eq_some_iff.1 d).1
   have hcc:=List.getElem?_eq_getElem hlj
   obtain ⟨v,v1,v2⟩:=c4 i j _ _ hrow hcc
   exact ⟨v,by rw [hpl,hsz];exact v1,R.ren rel1 cmpO (hr.2.2 i j _ row' _ c' hrow a hcc d) v2⟩
 show Rel m' h' w'
 refine ⟨?_,?_,?_,?_,?_,?_⟩
 ·intro y b hy
  rcases live' y b hy with ⟨k,k1,_,h2,h3,h4,h5,h6,_⟩|⟨k,k1,_,h2,h3,h4,h5,h6⟩|⟨hno,hy0,hpl⟩
  ·exact rowsOk y k k1 b h2 h3 h4 h5 h6
  ·exact rowsOk y k k1 b h2 h3 h4 h5 h6
  ·obtain ⟨cur,c1,c2,c3,c4⟩:=rel.own y b hy0
   rw [hpl]
   exact ⟨cur,by rw [far y b hno hy0];exact c1,c2,c3,fun i j row c a d=>let ⟨v,v1,v2⟩:=c4 i j row c a d;⟨v,v1,v2.mono rel ev⟩⟩
 ·intro y y' b b' hy hy' e
  rcases live' y b hy with ⟨k,k1,o1,h2,h3,_,_,_,hp,kx,hx⟩|⟨k,k1,f1,h2,h3,_⟩|⟨hno,hy0,hpl⟩ <;>
   rcases live' y' b' hy' with ⟨k', k1', o1', h2', h3', _,_,_,hp', kx', hx'⟩|⟨k', k1', f1', h2', h3', _⟩|⟨hno', hy0', hpl'⟩
  ·rw [hp,hp'] at e;exact rel.sep y y' kx kx' hx hx' e
  ·rw [h3,h3'] at e
   have:=rel1.sep k k' k1 k1' h2 h2' e
   subst this
   obtain ⟨_,k0,_,g2,_⟩:=ownL k y o1
   rw [(cf.fr0 k y' f1').1] at g2;cases g2
  ·rw [hp,hpl'] at e;exact rel.sep y y' kx b' hx hy0' e
  ·rw [h3,h3'] at e
   have:=rel1.sep k k' k1 k1' h2 h2' e
   subst this
   obtain ⟨_,k0,_,g2,_⟩:=ownL k y' o1'
   rw [(cf.fr0 k y f1).1] at g2;cases g2
  ·rw [h3,h3'] at e
   have:=rel1.sep k k' k1 k1' h2 h2' e
   subst this
   exact cf.fr2 k y y' f1 f1'
  ·rw [h3,hpl'] at e
   rcases newPl k k1 y f1 h2 with h|⟨k2,x2,kx2,g1,g2,g3⟩|⟨k2,x2,g1,g2⟩
   ·have:=ltO y' b' hy0'; omega
   ·have:=rel.sep x2 y' kx2 b' g2 hy0' (g3.trans e)
    subst this
    exact absurd g1 (hno' k2)
   ·rw [e] at g2
    exact absurd g2 (rel.sepR y' b' x2 hy0' (by rw [eatU k2 x2 g1];trivial))
  ·rw [hpl,hp'] at e;exact rel.sep y y' b kx' hy0 hx' e
  ·rw [hpl,h3'] at e
   rcases newPl k' k1' y' f1' h2' with h|⟨k2,x2,kx2,g1,g2,g3⟩|⟨k2,x2,g1,g2⟩
   ·have:=ltO y b hy0;omega
   ·have:=rel.sep x2 y kx2 b g2 hy0 (g3.trans e.symm)
    subst this
    exact absurd g1 (hno k2)
   ·rw [← e] at g2
    exact absurd g2 (rel.sepR y b x2 hy0 (by rw [eatU k2 x2 g1];trivial))
  ·rw [hpl,hpl'] at e;exact rel.sep y y' b b' hy0 hy0' e
 ·intro y b r hy hr hs
  rcases imm' r hr with ⟨kr,fr1,hu,hset,_⟩|⟨hir,hee,hset,hno1,hne1⟩
  ·rw [hset] at hs
   rcases live' y b hy with ⟨k,k1,o1,h2,h3,_⟩|⟨k,k1,f1,h2,h3,_⟩|⟨hno,hy0,hpl⟩
   ·rw [h3] at hs;exact rel1.sepR k k1 kr h2 (by rw [hu];trivial) hs
   ·rw [h3] at hs;exact rel1.sepR k k1 kr h2 (by rw [hu];trivial) hs
   ·rw [hpl] at hs
    rcases newSet kr r _ fr1 hu hs with h|⟨k2,x2,kx2,g1,g2,g3⟩|⟨k2,x2,g1,g2⟩
    ·have:=ltO y b hy0;omega
    ·have:=rel.sep x2 y kx2 b g2 hy0 g3
     subst this
     exact hno k2 g1
    ·exact rel.sepR y b x2 hy0 (by rw [eatU k2 x2 g1];trivial) g2
  ·rw [hset] at hs
   rcases live' y b hy with ⟨k,k1,o1,h2,h3,_,_,_,hp,kx,hx⟩|⟨k,k1,f1,h2,h3,_⟩|⟨hno,hy0,hpl⟩
   ·rw [hp] at hs;exact rel.sepR y kx r hx hir hs
   ·rw [h3] at hs
    rcases newPl k k1 y f1 h2 with h|⟨k2,x2,kx2,g1,g2,g3⟩|⟨k2,x2,g1,g2⟩
    ·have:=rel.bound r _ hir hs;omega
    ·rw [← g3] at hs;exact rel.sepR x2 kx2 r g2 hir hs
    ·exact rel.sepU x2 r _ (eatU k2 x2 g1) hir (by rintro rfl;exact hne1 k2 g1) g2 hs
   ·rw [hpl] at hs;exact rel.sepR y b r hy0 hir hs
 ·intro r r' g hr hr' hne hs hs'
  rcases imm' r (by rw [hr];trivial) with ⟨kr,fr1,hu,hset,_⟩|⟨hir,hee,hset,hno1,hne1⟩<;>rcases imm' r' hr' with ⟨kr', fr1', hu', hset', _⟩|⟨hir', hee', hset', hno1', hne1'⟩
  ·rw [hset] at hs
   rw [hset'] at hs'
   by_cases e:kr=kr'
   ·subst e;exact hne (cf.fr2 kr r r' fr1 fr1')
   ·exact rel1.sepU kr kr' g hu (by rw [hu'];trivial) e hs hs'
  ·rw [hset] at hs
   rw [hset'] at hs'
   rcases newSet kr r g fr1 hu hs with h|⟨k2,x2,kx2,g1,g2,g3⟩|⟨k2,x2,g1,g2⟩
   ·have:=rel.bound r' g hir' hs'; omega
   ·rw [← g3] at hs'; exact rel.sepR x2 kx2 r' g2 hir' hs'
   ·exact rel.sepU x2 r' _ (eatU k2 x2 g1) hir' (by rintro rfl;exact hne1' k2 g1) g2 hs'
  ·rw [hset] at hs
   rw [hset'] at hs'
   rcases newSet kr' r' g fr1' hu' hs' with h|⟨k2,x2,kx2,g1,g2,g3⟩|⟨k2,x2,g1,g2⟩
   ·have:=rel.bound r g hir hs;omega
   ·rw [← g3] at hs;exact rel.sepR x2 kx2 r g2 hir hs
   ·exact rel.sepU x2 r _ (eatU k2 x2 g1) hir (by rintro rfl;exact hne1 k2 g1) g2 hs
  ·rw [hset] at hs
   rw [hset'] at hs'
   rw [hee] at hr
   exact rel.sepU r r' g hr hir' hne hs hs'
 ·intro r g hr hs
  rcases imm' r hr with ⟨kr,fr1,hu,hset,_⟩|⟨hir,hee,hset,hno1,hne1⟩
  ·rw [hset] at hs;exact rel1.bound kr g (by rw [hu];trivial) hs
  ·rw [hset] at hs;exact Nat.lt_of_lt_of_le (rel.bound r g hir hs) ev1.size
 ·intro r g hr hs
  rcases imm' r (by rw [hr];trivial) with ⟨kr,fr1,hu,hset,_⟩|⟨hir,hee,hset,hno,hne⟩
  ·rw [hset] at hs;exact rel1.free kr g hu hs
  ·rw [hset] at hs
   rw [hee] at hr
   rw [frame g (rel.bound r g hir hs) (fun k x hx e=>by
    obtain ⟨kx,_,g1,_⟩:=ownL k x hx
    exact rel.sepR x kx r g1 hir (e ▸ hs)) fun k x hx hs2=>rel.sepU x r g (eatU k x hx) hir (by rintro rfl;exact hne k hx) hs2 hs]
   exact rel.free r g hr hs
end
end Go.Proofs.YtceohcbokbalhaaGreat
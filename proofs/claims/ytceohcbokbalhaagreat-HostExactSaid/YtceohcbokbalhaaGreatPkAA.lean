/- Contracts and plain laws, one behind the other: TypedZ, ReadZ, TyZ, AhBytes, AhBig, Math, Num, Float, Span, SpanOk, AhNum. Conditions are said at each. -/
import Derived.Test.YtceohcbokbalhaaGreatRows
import Derived.ProofKit
import Derived.WalkKit
import Derived.Deep.Slices
import Derived.Below
import Derived.SizedLaws
import Derived.Test.YtceohcbokbalhaaGreatAhiC
import Derived.KernelRfl
import Derived.Test.YtceohcbokbalhaaGreatTy
import Derived.OwnWalk
import Derived.Laws.OwnMore
import Derived.WalkLawsBesides
import Derived.WalkSpells
import Derived.ScopeJumps
import Derived.Test.YtceohcbokbalhaaGreatProg
import Derived.Laws.FloatArith
namespace Go.Proofs.YtceohcbokbalhaaGreat
open Go.ChangeShapes Go.WideShapes Go.ChangeAt Go.RowKit
set_option linter.unusedVariables false
set_option linter.unusedSimpArgs false
def fP (P:Program) (w:World):Nat→TypeId→List Value→Prop
 | 0,_,_=>False
 | n + 1,t,cs =>
   match P.underlying t with
   | some .bool => ∃ b,cs=[.bool b]
   | some (.int k) => ∃ i,cs=[.int k i]∧k.min≤i∧i≤k.max
   | some (.float k) => ∃ b,cs=[.float k b]
   | some .string => ∃ s,cs=[.string s]∧s.size≤maxLen
   | some (.slice e)=>cs=[.slice none 0 0] ∨ ∃ a len cap,cs=[.slice (some a) len cap]∧len≤cap∧cap≤maxLen∧len * P.bytesOf e≤reachBytes ∧
    ∀ i,i < len → ∃ es,w.cells? 0 (a.add (i * P.cellsOf e)) (P.cellsOf e)=some es∧fP P w n e es
   | some (.struct fs)=>cs.length=P.cellsOf t ∧ ∀ f∈fs.toList,fP P w n f.type ((cs.drop f.offset).take (P.cellsOf f.type))
   | some (.array m e)=>cs.length=P.cellsOf t ∧ ∀ i,i < m→fP P w n e ((cs.drop (i * P.cellsOf e)).take (P.cellsOf e))
   | _=>True
theorem iF {α β:Type} (f:α→Option β) : ∀ (l:List α) (ys:List β),l.mapM f=some ys→ys.length=l.length ∧ ∀ (i:Nat) (x:α),l[i]?=some x → ∃ y,f x=some y∧ys[i]?=some y
 | [],ys,h=>by simp at h;subst h;exact ⟨rfl,by simp⟩
 | a::l,ys,h=>by
   rw [List.mapM_cons] at h
   simp only [Option.bind_eq_bind,Option.bind_eq_some_iff] at h
   obtain ⟨y,hy,zs,hz,e⟩:=h
   simp only [Option.pure_def,Option.some.injEq] at e
   subst e
   obtain ⟨h1,h2⟩:=iF f l zs hz
   refine ⟨by simp [h1],fun i x hx=>?_⟩
   rcases i with _|i
   ·simp at hx;subst hx;exact ⟨y,hy,rfl⟩
   ·simpa using h2 i x (by simpa using hx)
theorem gA {H:Type} {P:Program} {e:TypeId} : ∀ {ds:List (DataW H)} {d:DataW H}, d∈ds → ∀ k∈d.weights P e,k∈DataW.weightsAll P e ds
 | [],d,h=>by cases h
 | a::ds,d,h=>fun k hk=>by
   simp only [DataW.weightsAll,List.mem_append]
   rcases List.mem_cons.1 h with rfl|h
   ·exact .inl hk
   ·exact .inr (gA h k hk)
theorem xq {k:IntKind} {i:Int} (h:(Lit.int k i).wf=true):k.min≤i∧i≤k.max:=by
 simpa [Lit.wf] using h
theorem d7 {H:Type} {enc:TypeId × Value→H} {P:Program} {w:World} {spare:Nat→Bool} {held:Bool} :
 ∀ (n:Nat) (t:TypeId) (cs:List Value) (x:DataW H × List MemPlace),DataW.trod enc P w 0 spare held n t cs=some x→(∀ k∈x.1.weights P t,k≤reachBytes)→fP P w n t cs
 | 0,_,_,_,h,_=>by simp [DataW.trod] at h
 | n + 1,t,cs,x,h,hs=>by
   unfold fP
   split
   ·rename_i hu
    unfold DataW.trod at h;rw [hu] at h
    split at h<;>simp_all
   ·rename_i k hu
    unfold DataW.trod at h;rw [hu] at h
    clear hs
    split at h<;>simp_all
    exact xq h.1.2
   ·rename_i k hu
    unfold DataW.trod at h;rw [hu] at h
    clear hs
    split at h<;>simp_all
   ·rename_i hu
    unfold DataW.trod at h;rw [hu] at h
    clear hs
    split at h<;>simp_all
   ·rename_i e hu
    rcases Deep.open_slice hu h with ⟨rfl,_⟩|⟨a,len,cap,m,n', D,Pl,rfl,_,hl,hm,hmm,_,hx⟩
    ·exact .inl rfl
    ·unfold DataW.trod at h;rw [hu] at h
     simp only at h
     rw [if_pos ⟨Nat.zero_le _,hl,hm⟩] at h
     simp only [Option.bind_eq_some_iff] at h
     obtain ⟨elems,he,h3⟩:=h
     rw [Option.map_eq_some_iff] at h3
     obtain ⟨rest,hrest,rfl⟩:=h3
     obtain ⟨g1,g2⟩:=iF _ _ _ he
     simp only [List.length_range] at g1
     simp only [DataW.weights,hu,List.mem_cons,List.mem_append] at hs
     refine .inr ⟨a,len,cap,rfl,hl,hm,?_,fun i hi=>?_⟩
     ·have h4:=hs _ (.inl rfl)
      simp only [List.length_map,g1] at h4
      exact Nat.le_trans (Nat.mul_le_mul_right _ (Nat.le_add_right _ _)) h4
     ·obtain ⟨y,hy,hye⟩:=g2 i i (by simp [hi])
      simp only [Option.bind_eq_some_iff] at hy
      obtain ⟨es,h1,h2⟩:=hy
      exact ⟨es,h1,d7 n e es y h2 fun k hk=>hs k (.inr (.inl (gA (List.mem_map.2 ⟨y,List.mem_of_getElem? hye,rfl⟩) k hk)))⟩
   ·rename_i fs hu
    unfold DataW.trod at h;rw [hu] at h
    have h' : (if cs.length=P.cellsOf t then (fs.toList.mapM fun f=>DataW.trod enc P w 0 spare held n f.type ((cs.drop f.offset).take (P.cellsOf f.type))).map fun xs=>(DataW.agg (xs.map (·.1)),xs.flatMap (·.2)) else none)=some x:=by
     simpa using h
    split at h'
    ·rename_i hlen
     refine ⟨hlen,fun f hf=>?_⟩
     rw [Option.map_eq_some_iff] at h'
     obtain ⟨xs,hxs,rfl⟩:=h'
     obtain ⟨i,hi⟩:=List.mem_iff_getElem?.1 hf
     obtain ⟨y,hy,hye⟩:=(iF _ _ _ hxs).2 i f hi
     simp only [DataW.weights,hu] at hs
     exact d7 n _ _ y hy fun k hk=>hs k (DataW.weights_mem_each (j:=i) (by simp [hi]) (by simp [hye]) k hk)
    ·cases h'
   ·rename_i m e hu
    unfold DataW.trod at h;rw [hu] at h
    have h' : (if cs.length=P.cellsOf t then ((List.range m).mapM fun i=>DataW.trod enc P w 0 spare held n e ((cs.drop (i * P.cellsOf e)).take (P.cellsOf e))).map fun xs=>(DataW.agg (xs.map (·.1)),xs.flatMap (·.2)) else none)=some x:=by
     simpa using h
    split at h'
    ·rename_i hlen
     refine ⟨hlen,fun i hi=>?_⟩
     rw [Option.map_eq_some_iff] at h'
     obtain ⟨xs,hxs,rfl⟩:=h'
     obtain ⟨y,hy,hye⟩:=(iF _ _ _ hxs).2 i i (by simp [hi])
     simp only [DataW.weights,hu] at hs
     exact d7 n _ _ y hy fun k hk=>hs k (gA (List.mem_map.2 ⟨y,List.mem_of_getElem? hye,rfl⟩) k hk)
    ·cases h'
   ·trivial
def TyZV (P:Program):Nat→TypeId→List AV→Prop
 | 0,_,_=>False
 | n + 1,t,avs =>
   match P.underlying t with
   | some .bool => ∃ b,avs=[.val (.bool b)]
   | some (.int k) => ∃ i,avs=[.val (.int k i)]∧k.min≤i∧i≤k.max
   | some .string => ∃ s,avs=[.val (.string s)]∧s.size≤maxLen
   | some (.slice e) => ∃ rows,avs=[.list 0 (P.cellsOf e) rows]∧rows.length≤maxLen∧rows.length * P.bytesOf e≤reachBytes ∧ ∀ row∈rows,row.length=P.cellsOf e∧TyZV P n e row
   | some (.struct fs)=>avs.length=P.cellsOf t ∧ ∀ f∈fs.toList,TyZV P n f.type ((avs.drop f.offset).take (P.cellsOf f.type))
   | some (.array m e)=>avs.length=P.cellsOf t ∧ ∀ i,i < m→TyZV P n e ((avs.drop (i * P.cellsOf e)).take (P.cellsOf e))
   | _=>False
def fE:Nat→List (Nat × Nat)→Nat→Bool
 | o,[],e=>o == e
 | o,(o', n)::l,e=>o == o' && fE (o + n) l e
def fN (P:Program):Nat→TypeId→Bool
 | 0,_=>false
 | n + 1,t =>
   match P.underlying t with
   | some .bool=>true
   | some (.int _)=>true
   | some .string=>true
   | some (.slice e)=>decide (0 < P.cellsOf e) && fN P n e
   | some (.struct fs)=>fE 0 (fs.toList.map fun f=>(f.offset,P.cellsOf f.type)) (P.cellsOf t) && fs.toList.all fun f=>fN P n f.type
   | some (.array m e)=>fE 0 ((List.range m).map fun i=>(i * P.cellsOf e,P.cellsOf e)) (P.cellsOf t) && fN P n e
   | _=>false
def RRow (w:World) (avs:List AV) (cs:List Value):Prop :=
 avs.length=cs.length ∧ ∀ (m:Nm),(∀ g,m.set 0 g ↔ g < w.heap.size) → ∀ (i:Nat) (c:AV) (v:Value),avs[i]?=some c→cs[i]?=some v→R m (ofL [.perm]) w c v
theorem RRow.one {w:World} {c:AV} {v:Value} (h : ∀ (m:Nm),(∀ g,m.set 0 g ↔ g < w.heap.size)→R m (ofL [.perm]) w c v):RRow w [c] [v]:=by
 refine ⟨rfl,fun m hm i c' v' h1 h2=>?_⟩
 cases i with
 | zero=>simp at h1 h2;subst h1 h2;exact h m hm
 | succ i=>simp at h1
theorem RRow.append {w:World} {a b:List AV} {x y:List Value} (h1:RRow w a x) (h2:RRow w b y):RRow w (a ++ b) (x ++ y):=by
 refine ⟨by simp [h1.1,h2.1],fun m hm i c v e1 e2=>?_⟩
 by_cases hi:i < a.length
 ·rw [List.getElem?_append_left hi] at e1
  rw [List.getElem?_append_left (by rw [← h1.1];exact hi)] at e2
  exact h1.2 m hm i c v e1 e2
 ·rw [List.getElem?_append_right (by omega)] at e1
  rw [List.getElem?_append_right (by rw [← h1.1];omega), ← h1.1] at e2
  exact h2.2 m hm _ c v e1 e2
theorem gy {α:Type} {w:World} (pl:α→Nat × Nat) (T:α→List AV→Prop) (cs:List Value) : ∀ (l:List α) (o:Nat),fE o (l.map pl) cs.length=true →
 (∀ p∈l, ∃ avs,RRow w avs ((cs.drop (pl p).1).take (pl p).2)∧T p avs) →
 ∃ avs,RRow w avs (cs.drop o) ∧ ∀ p∈l,o≤(pl p).1∧T p ((avs.drop ((pl p).1 - o)).take (pl p).2)
 | [],o,ht,_=>by
   simp only [List.map_nil,fE,beq_iff_eq] at ht
   subst ht
   exact ⟨[],by simp [RRow],by simp⟩
 | p::l,o,ht,hp=>by
   simp only [List.map_cons,fE,Bool.and_eq_true,beq_iff_eq] at ht
   obtain ⟨ho,ht⟩:=ht
   obtain ⟨a,ha,hT⟩:=hp p (by simp)
   obtain ⟨b,hb,hbs⟩:=gy pl T cs l (o + (pl p).2) ht fun q hq=>hp q (by simp [hq])
   have hle : ∀ (l:List (Nat × Nat)) (o:Nat),fE o l cs.length=true→o≤cs.length:=by
    intro l
    induction l with
    | nil=>intro o h;simp [fE] at h;omega
    | cons q l ih =>
      intro o h
      simp only [fE,Bool.and_eq_true,beq_iff_eq] at h
      have:=ih _ h.2;omega
   have h1:=hle _ _ ht
   have hal:a.length=(pl p).2:=by rw [ha.1, ← ho];simp;omega
   refine ⟨a ++ b,?_,fun q hq=>?_⟩
   ·have:cs.drop o=(cs.drop o).take (pl p).2 ++ cs.drop (o + (pl p).2):=by
     rw [← List.drop_drop,List.take_append_drop]
    rw [this]
    rw [← ho] at ha
    exact ha.append hb
   ·rcases List.mem_cons.1 hq with rfl|hq
    ·refine ⟨by omega,?_⟩
     rw [← ho,Nat.sub_self,List.drop_zero,List.take_append_of_le_length (by omega),List.take_of_length_le (by omega)]
     exact hT
    ·obtain ⟨h2,h3⟩:=hbs q hq
     refine ⟨by omega,?_⟩
     have:(pl q).1 - o=a.length + ((pl q).1 - (o + (pl p).2)):=by omega
     rw [this,List.drop_append,List.drop_eq_nil_of_le (by omega),List.nil_append,Nat.add_sub_cancel_left]
     exact h3
theorem kP {α:Type} {p:Nat→α→Prop} : ∀ (n:Nat),(∀ i,i < n → ∃ v,p i v) → ∃ vs:List α,vs.length=n ∧ ∀ i v,vs[i]?=some v→p i v
 | 0,_=>⟨[],rfl,by simp⟩
 | n + 1,h=>by
   obtain ⟨vs,h1,h2⟩:=kP n fun i hi=>h i (by omega)
   obtain ⟨v,hv⟩:=h n (by omega)
   refine ⟨vs ++ [v],by simp [h1],fun i u hu=>?_⟩
   by_cases hi:i < n
   ·rw [List.getElem?_append_left (by omega)] at hu;exact h2 i u hu
   ·have hlt:=(List.getElem?_eq_some_iff.1 hu).1
    simp at hlt
    have:i=n:=by omega
    subst this
    rw [List.getElem?_append_right (by omega),h1] at hu
    simp at hu;subst hu;exact hv
theorem ff {P:Program} {w:World} : ∀ (q n:Nat) (t:TypeId) (cs:List Value),fN P q t=true→fP P w n t cs → ∃ avs,RRow w avs cs∧TyZV P q t avs
 | 0,_,_,_,hq,_=>by simp [fN] at hq
 | q + 1,0,_,_,_,h=>h.elim
 | q + 1,n + 1,t,cs,hq,h=>by
   unfold fN at hq
   unfold fP at h
   unfold TyZV
   split at hq
   ·rename_i hu
    rw [hu] at h
    obtain ⟨b,rfl⟩:=h
    exact ⟨_,.one fun m hm => .val _,b,rfl⟩
   ·rename_i k hu
    rw [hu] at h
    obtain ⟨i,rfl,hi⟩:=h
    exact ⟨_,.one fun m hm => .val _,i,rfl,hi⟩
   ·rename_i hu
    rw [hu] at h
    obtain ⟨s,rfl,hs⟩:=h
    exact ⟨_,.one fun m hm => .val _,s,rfl,hs⟩
   ·rename_i e hu
    rw [hu] at h
    simp only [Bool.and_eq_true,decide_eq_true_eq] at hq
    obtain ⟨hz,hq⟩:=hq
    rcases h with rfl|⟨a,len,cap,rfl,hlc,hcm,hzz,hx⟩
    ·exact ⟨[.list 0 (P.cellsOf e) []],.one fun m hm => .nil _ _,[],rfl,by simp,by simp,by simp⟩
    ·obtain ⟨rows,hl,hrows⟩:=kP (p:=fun i row => ∃ es,w.cells? 0 (a.add (i * P.cellsOf e)) (P.cellsOf e)=some es∧RRow w row es∧TyZV P q e row) len (fun i hi=>by
      obtain ⟨es,h1,h2⟩:=hx i hi
      obtain ⟨avs,h3,h4⟩:=ff q n e es hq h2
      exact ⟨avs,es,h1,h3,h4⟩)
     have rlen : ∀ (i:Nat) (row:List AV),rows[i]?=some row→row.length=P.cellsOf e:=fun i row hr=>by
      obtain ⟨es,h1,h2,_⟩:=hrows i row hr
      rw [h2.1,(World.cells?_some h1).2.1]
     refine ⟨[.list 0 (P.cellsOf e) rows],.one fun m hm=>?_,rows,rfl,by omega,by rw [hl];exact hzz,fun row hr=>?_⟩
     ·rcases Nat.eq_zero_or_pos len with h0|h0
      ·subst h0
       have:rows=[]:=List.eq_nil_of_length_eq_zero hl
       subst this
       exact .emp _ _ _ _ trivial hcm
      ·have cell : ∀ (i j:Nat) (row:List AV) (c:AV),rows[i]?=some row→row[j]?=some c → ∃ v,w.cell? (a.add (i * P.cellsOf e) |>.add j)=some v∧R m (ofL [.perm]) w c v:=fun i j row c h1 h2=>by
        obtain ⟨es,h3,h4,_⟩:=hrows i row h1
        have hj:j < P.cellsOf e:=by rw [← rlen i row h1];exact (List.getElem?_eq_some_iff.1 h2).1
        obtain ⟨_,h5,h6⟩:=World.cells?_some h3
        have h7:=List.getElem?_eq_getElem (show j < es.length by omega)
        exact ⟨es[j],(h6 j hj).trans h7,h4.2 m hm j c _ h2 h7⟩
       obtain ⟨b,o,sp⟩:=a
       have hsp:sp=none:=by
        have h1:=List.getElem?_eq_getElem (show 0 < rows.length by omega)
        have h2:=List.getElem?_eq_getElem (show 0 < (rows[0]).length by rw [rlen 0 _ h1];exact hz)
        obtain ⟨v,h3,_⟩:=cell 0 0 _ _ h1 h2
        have:=World.cell?_spot h3
        simpa [Addr.add] using this
       subst hsp
       have cell' : ∀ (i j:Nat) (row:List AV) (c:AV),rows[i]?=some row→row[j]?=some c → ∃ v,w.cell? ⟨b,o + i * P.cellsOf e + j,none⟩=some v∧R m (ofL [.perm]) w c v:=fun i j row c h1 h2=>by
        obtain ⟨v,h3,h4⟩:=cell i j row c h1 h2
        rw [bo,bo] at h3
        exact ⟨v,h3,h4⟩
       have hb:b < w.heap.size:=by
        have h1:=List.getElem?_eq_getElem (show 0 < rows.length by omega)
        have h2:=List.getElem?_eq_getElem (show 0 < (rows[0]).length by rw [rlen 0 _ h1];exact hz)
        obtain ⟨v,h3,_⟩:=cell' 0 0 _ _ h1 h2
        unfold World.cell? at h3
        split at h3
        ·rename_i hg
         exact (Array.getElem?_eq_some_iff.1 hg).1
        ·cases h3
       rw [← hl]
       refine R.list (m:=m) (h:=ofL [.perm]) (w:=w) 0 _ rows trivial b o cap ((hm b).2 hb) (by omega) hcm (fun row hr=>?_) (fun i j=>(w.cell? ⟨b,o + i * P.cellsOf e + j,none⟩).getD undef) (fun i j row c h1 h2=>?_) fun i j row c h1 h2=>?_
       ·obtain ⟨i,hi⟩:=List.getElem?_of_mem hr
        exact rlen i row hi
       ·obtain ⟨v,h3,_⟩:=cell' i j row c h1 h2
        rw [h3];rfl
       ·obtain ⟨v,h3,h4⟩:=cell' i j row c h1 h2
        rw [h3];exact h4
     ·obtain ⟨i,hi⟩:=List.getElem?_of_mem hr
      obtain ⟨es,_,_,h4⟩:=hrows i row hi
      exact ⟨rlen i row hi,h4⟩
   ·rename_i fs hu
    rw [hu] at h
    simp only [Bool.and_eq_true,List.all_eq_true] at hq
    obtain ⟨ht,hf⟩:=hq
    obtain ⟨hl,hx⟩:=h
    obtain ⟨avs,h1,h2⟩:=gy (w:=w) (fun f:Field=>(f.offset,P.cellsOf f.type)) (fun f avs=>TyZV P q f.type avs) cs fs.toList 0 (by rw [hl];exact ht)
     (fun f hf' => ff q n f.type _ (hf f hf') (hx f hf'))
    rw [List.drop_zero] at h1
    exact ⟨avs,h1,by rw [h1.1,hl],fun f hf' => by simpa using (h2 f hf').2⟩
   ·rename_i k e hu
    rw [hu] at h
    simp only [Bool.and_eq_true] at hq
    obtain ⟨ht,hf⟩:=hq
    obtain ⟨hl,hx⟩:=h
    obtain ⟨avs,h1,h2⟩:=gy (w:=w) (fun i:Nat=>(i * P.cellsOf e,P.cellsOf e)) (fun _ avs=>TyZV P q e avs) cs (List.range k) 0 (by rw [hl];exact ht)
     (fun i hi=>ff q n e _ hf (hx i (List.mem_range.1 hi)))
    rw [List.drop_zero] at h1
    exact ⟨avs,h1,by rw [h1.1,hl],fun i hi=>by simpa using (h2 i (List.mem_range.2 hi)).2⟩
   ·cases hq
open Go.RowKit
set_option maxRecDepth 100000
abbrev inI (i:Int):Prop := -9223372036854775808≤i∧i≤9223372036854775807
theorem dO:Tryz.prog.cellsOf 3=1:=by kernel_rfl
theorem fh:Tryz.prog.cellsOf 37=1:=by kernel_rfl
theorem qJ:Tryz.prog.cellsOf 5=1:=by kernel_rfl
theorem rJ:Tryz.prog.bytesOf 5=1:=by kernel_rfl
theorem iD:reachBytes≤140737488351232:=by decide
theorem bu {q:Nat} {avs:List AV} (h:TyZV Tryz.prog (q + 1) 3 avs) : ∃ i,avs=[.val (.int .i64 i)]∧inI i:=by
 simp only [TyZV,Tryz.underlying3] at h;exact h
theorem vA {q:Nat} {avs:List AV} (h:TyZV Tryz.prog (q + 1) 5 avs) : ∃ i,avs=[.val (.int .u8 i)]∧0≤i∧i≤255:=by
 simp only [TyZV,Tryz.underlying5] at h;exact h
theorem eS {α:Type} {P:List AV→Prop} {f:α→List AV} {Q:α→Prop} (H : ∀ row,P row → ∃ x,row=f x∧Q x) : ∀ (rows:List (List AV)),(∀ row∈rows,P row) → ∃ xs:List α,rows=xs.map f ∧ ∀ x∈xs,Q x
 | [],_=>⟨[],rfl,by simp⟩
 | row::rows,h=>by
   obtain ⟨x,rfl,hx⟩:=H row (h row (by simp))
   obtain ⟨xs,rfl,hxs⟩:=eS H rows fun r hr=>h r (by simp [hr])
   exact ⟨x::xs,rfl,by simpa using ⟨hx,hxs⟩⟩
def isBs (xs:List Int):Prop:=xs.length≤140737488351232 ∧ ∀ x∈xs,0≤x∧x≤255
theorem iC {q:Nat} {avs:List AV} (h:TyZV Tryz.prog (q + 2) 37 avs) : ∃ xs:List Int,avs=[.list 0 1 (xs.map fun x=>[.val (.int .u8 x)])]∧isBs xs:=by
 unfold TyZV at h
 rw [Tryz.underlying37] at h
 obtain ⟨rows,e,_,hz,hr⟩:=h
 obtain ⟨xs,rfl,hx⟩:=eS (f:=fun x=>[.val (.int .u8 x)]) (fun row (h:_∧_)=>vA h.2) rows hr
 rw [rJ,List.length_map] at hz
 exact ⟨xs,by rw [e,qJ],by have:=iD;omega,hx⟩
set_option maxHeartbeats 4000000
def ap (n:Nat) (l:List (Nat × AV)):List AV:=l.foldl (fun s p=>s.set p.1 p.2) (List.replicate n .any)
abbrev bR (x:Int):List AV:=[.val (.int .u8 x)]
abbrev gL (r:Nat) (xs:List Int):AV := .glist r 1 (xs.map bR)
abbrev bL (r:Nat) (xs:List Int):AV := .list r 1 (xs.map bR)
theorem al (xs:List Int):PlRows (xs.map bR):=PlRows.map xs fun x => .int .u8 x
theorem aM {L I F:Prs} {h:Hp} {xs ys:List Int} (h0:I.has 0 0=true) (e:xs=ys):RowsRen (qOf L I F) h (xs.map bR) (ys.map bR):=by
 subst e;exact .pl h0 rfl (al xs)
theorem iA {L I F:Prs} {h:Hp} {rows:List (List AV)} {ys:List Int} (h0:I.has 0 0=true) (e:rows=ys.map bR):RowsRen (qOf L I F) h rows (ys.map bR):=by
 subst e;exact .pl h0 rfl (al ys)
theorem iq (xs:List Int):(xs.map bR).all (fun r=>r.all AV.one)=true:=by simp [AV.one,Value.oneCell']
theorem bj {α:Type} {xs:List α} {k:Nat} {x:α} (h:xs[k]?=some x):xs.take (k + 1)=xs.take k ++ [x]:=by
 rw [List.take_add_one,h];rfl
theorem qe {xs:List Int} {k:Nat} {x:Int} (h:xs[k]?=some x):(xs.take k).map bR ++ [bR x]=(xs.take (k + 1)).map bR:=by
 rw [bj h];simp
theorem bK (xs:List Int) (hx:xs.length≤100000000):ACallL Tryz.prog 25 [bL 0 xs] [.perm] (gL 1 xs) [.perm,.uniq]:=by
 refine ACallL.of_ev af Tryz.func25 rfl (fun a w=>Tryz.call25 a w) (congrArg Array.toList Tryz.results25) Tryz.ntmps25 fun B hB=>?_
 ((conv=>whnf);(repeat' ((first|refine gT ?_|(with_reducible refine ab (fun _=>?_) (fun _=>?_)))<;>(conv=>whnf))))
 refine qAW.loop af (X:=Nat) (fun k=>ap 19 [(0,bL 0 xs),(3,.glist 1 1 ((xs.take k).map bR)),(4,.val (.int .i64 k))]) (fun k=>[.perm,.uniq]) (fun k=>k≤xs.length) (fun k=>xs.length - k) 0 (Nat.zero_le _) ?_ ?_
 ·(refine qcv hB [] [(0,0)] [] ?_;repeat' (with_reducible first|exact trivial|refine And.intro ?_ ?_))
  all_goals first|rfl|exact aM rfl rfl
 ·intro k hk
  have hlen:(xs.map bR).length=xs.length:=by simp
  have htl:(List.map bR (xs.take k)).length=k:=by simp;omega
  by_cases hlt:k < xs.length
  ·obtain ⟨x,hxk⟩ : ∃ x,xs[k]?=some x:=⟨_,List.getElem?_eq_getElem hlt⟩
   have hrow:(xs.map bR)[(k:Int).toNat]?=some (bR x):=by simp [hxk]
   have w:=IntWalk.i64_in (k + 1) (by omega)
   ((conv=>whnf);(repeat' ((first|refine gT ?_|((with_reducible refine ai ?_ ?_);focus (simp [hlen,hlt];done))|((with_reducible refine aj ?_ ?_);focus (simp [hlen,hlt];done))|(with_reducible refine ab (fun _=>?_) (fun _=>?_))|(refine ak (idxL rfl rfl rfl rfl rfl rfl (by omega) hrow) ?_)|(refine ak (apG (nb:=1) rfl rfl rfl rfl rfl rfl rfl rfl rfl rfl (by decide) rfl (by rw [htl];simp;omega)) ?_))<;>(conv=>whnf))))
   refine ⟨k + 1,by omega,by omega,?_⟩
   (refine qcv hB [] [(0,0),(3,1)] [] ?_;repeat' (with_reducible first|exact trivial|refine And.intro ?_ ?_))
   all_goals first|rfl|exact aM rfl rfl|exact iA rfl (qe hxk)|(simp [w];done)
  ·((conv=>whnf);(repeat' ((first|refine gT ?_|((with_reducible refine ai ?_ ?_);focus (simp [hlen,hlt];done))|((with_reducible refine aj ?_ ?_);focus (simp [hlen,hlt];done))|(with_reducible refine ab (fun _=>?_) (fun _=>?_)))<;>(conv=>whnf))))
   have:k=xs.length:=by omega
   subst this
   (refine qcv hB [] [(0,0),(1,1)] [] ?_;repeat' (with_reducible first|exact trivial|refine And.intro ?_ ?_))
   all_goals first|rfl|exact aM rfl (by simp)
theorem mv {xs ys:List Int} (h:xs.length≠ys.length):(xs == ys)=false:=by
 rw [beq_eq_false_iff_ne];rintro rfl;exact h rfl
theorem nX {xs ys:List Int} {k:Nat} {x y:Int} (hx:xs[k]?=some x) (hy:ys[k]?=some y) (h:x≠y):(xs == ys)=false:=by
 rw [beq_eq_false_iff_ne];rintro rfl;rw [hx] at hy;cases hy;exact h rfl
theorem gm (xs ys:List Int) (hx:xs.length≤100000000):ACallL Tryz.prog 78 [bL 0 xs,bL 0 ys] [.perm] (.val (.bool (xs == ys))) [.perm]:=by
 have lx:(xs.map bR).length=xs.length:=by simp
 have ly:(ys.map bR).length=ys.length:=by simp
 by_cases hl:xs.length=ys.length
 ·have hl' : (ys.length:Int)=xs.length:=by omega
  refine ACallL.of_ev af Tryz.func78 rfl (fun a w=>Tryz.call78 a w) (congrArg Array.toList Tryz.results78) Tryz.ntmps78 fun B hB=>?_
  ((conv=>whnf);(repeat' ((first|refine gT ?_|((with_reducible refine ai ?_ ?_);focus (simp [lx,ly,hl'];done))|((with_reducible refine aj ?_ ?_);focus (simp [lx,ly,hl'];done))|(with_reducible refine ab (fun _=>?_) (fun _=>?_)))<;>(conv=>whnf))))
  refine qAW.loop af (X:=Nat) (fun k=>ap 26 [(0,bL 0 xs),(1,bL 0 ys),(5,.val (.int .i64 k))]) (fun k=>[.perm]) (fun k=>k≤xs.length ∧ ∀ i < k,xs[i]?=ys[i]?) (fun k=>xs.length - k) 0 ⟨Nat.zero_le _,by omega⟩ ?_ ?_
  ·(refine qcv hB [] [(0,0)] [] ?_;repeat' (with_reducible first|exact trivial|refine And.intro ?_ ?_))
   all_goals rfl
  ·rintro k ⟨hk,heq⟩
   by_cases hlt:k < xs.length
   ·obtain ⟨x,hxk⟩ : ∃ x,xs[k]?=some x:=⟨_,List.getElem?_eq_getElem hlt⟩
    obtain ⟨y,hyk⟩ : ∃ y,ys[k]?=some y:=⟨_,List.getElem?_eq_getElem (by omega)⟩
    have hrx:(xs.map bR)[(k:Int).toNat]?=some (bR x):=by simp [hxk]
    have hry:(ys.map bR)[(k:Int).toNat]?=some (bR y):=by simp [hyk]
    have w:=IntWalk.i64_in (k + 1) (by omega)
    by_cases hxy:x=y
    ·subst hxy
     ((conv=>whnf);(repeat' ((first|refine gT ?_|((with_reducible refine ai ?_ ?_);focus (simp [lx,hlt];done))|((with_reducible refine aj ?_ ?_);focus (simp [lx,hlt];done))|(with_reducible refine ab (fun _=>?_) (fun _=>?_))|(refine ak (idxL rfl rfl rfl rfl rfl rfl (by omega) hrx) ?_)|(refine ak (idxL rfl rfl rfl rfl rfl rfl (by omega) hry) ?_))<;>(conv=>whnf))))
     refine ⟨k + 1,⟨by omega,fun i hi=>?_⟩,by omega,?_⟩
     ·rcases Nat.lt_succ_iff_lt_or_eq.1 hi with h|rfl
      ·exact heq i h
      ·rw [hxk,hyk]
     ·(refine qcv hB [] [(0,0)] [] ?_;repeat' (with_reducible first|exact trivial|refine And.intro ?_ ?_))
      all_goals first|rfl|(simp [w];done)
    ·((conv=>whnf);(repeat' ((first|refine gT ?_|((with_reducible refine ai ?_ ?_);focus (simp [lx,hlt,hxy];done))|((with_reducible refine aj ?_ ?_);focus (simp [lx,hlt,hxy];done))|(with_reducible refine ab (fun _=>?_) (fun _=>?_))|(refine ak (idxL rfl rfl rfl rfl rfl rfl (by omega) hrx) ?_)|(refine ak (idxL rfl rfl rfl rfl rfl rfl (by omega) hry) ?_))<;>(conv=>whnf))))
     (refine qcv hB [] [(0,0)] [] ?_;repeat' (with_reducible first|exact trivial|refine And.intro ?_ ?_))
     rw [nX hxk hyk hxy]
   ·((conv=>whnf);(repeat' ((first|refine gT ?_|((with_reducible refine ai ?_ ?_);focus (simp [lx,hlt];done))|((with_reducible refine aj ?_ ?_);focus (simp [lx,hlt];done))|(with_reducible refine ab (fun _=>?_) (fun _=>?_)))<;>(conv=>whnf))))
    (refine qcv hB [] [(0,0)] [] ?_;repeat' (with_reducible first|exact trivial|refine And.intro ?_ ?_))
    have:xs=ys:=List.ext_getElem? fun i=>by
     by_cases hi:i < k
     ·exact heq i hi
     ·rw [List.getElem?_eq_none (by omega),List.getElem?_eq_none (by omega)]
    simp [this]
 ·have hl' : ¬ (xs.length:Int)=ys.length:=by omega
  refine ACallL.of_ev af Tryz.func78 rfl (fun a w=>Tryz.call78 a w) (congrArg Array.toList Tryz.results78) Tryz.ntmps78 fun B hB=>?_
  ((conv=>whnf);(repeat' ((first|refine gT ?_|((with_reducible refine ai ?_ ?_);focus (simp [lx,ly,hl'];done))|((with_reducible refine aj ?_ ?_);focus (simp [lx,ly,hl'];done))|(with_reducible refine ab (fun _=>?_) (fun _=>?_)))<;>(conv=>whnf))))
  (refine qcv hB [] [(0,0)] [] ?_;repeat' (with_reducible first|exact trivial|refine And.intro ?_ ?_))
  rw [mv hl]
set_option maxRecDepth 100000 in
theorem eL (xs:List Int) (hx:xs.length≤100000000):ACallL Tryz.prog 128 [bL 0 xs] [.perm] (gL 1 xs) [.perm,.uniq]:=by
 cases xs with
 | nil =>
   refine ACallL.of_calls (fun a w=>Tryz.call128 a w) fun m w vs rel hl=>?_
   obtain ⟨v,rfl⟩ : ∃ v,vs = #[v]:=by
    obtain ⟨vs⟩:=vs
    match vs,hl.1 with
    | [v],_=>exact ⟨v,rfl⟩
   have hR:=hl.2 0 _ v rfl rfl
   clear hl
   have he:=fun (w:World) (a:Option Addr) (n c:Nat)=>Lib.run_eql_slice_nil (P:=Tryz.prog) w 37 5 a n c 0 0 Tryz.underlying37
   rcases R.nil_inv (h:=ofL [.perm]) (r:=0) trivial hR with rfl|⟨a,cap,rfl⟩
   ·clear hR rel
    go_enter Tryz.func128,Tryz.ntmps128
    go_wp2
    go_ret
    exact ⟨_,rfl,(by repeat (first|(with_reducible exact Below.refl _ _)|(with_reducible assumption)|((with_reducible refine Below.alloc ?_ ?_ _);rotate_left;focus (first|(simp;done)|(simp;omega)|omega))|((with_reducible refine Below.setCell ?_ ?_ _);rotate_left;focus (first|(simp;done)|(simp;omega)|omega))|(with_reducible refine Below.drew ?_)|((with_reducible apply Below.then);rotate_left;(with_reducible assumption)))),fun m' => .gnil _ _⟩
   ·clear hR rel
    go_enter Tryz.func128,Tryz.ntmps128
    go_wp2
    go_ret
    exact ⟨_,rfl,(by repeat (first|(with_reducible exact Below.refl _ _)|(with_reducible assumption)|((with_reducible refine Below.alloc ?_ ?_ _);rotate_left;focus (first|(simp;done)|(simp;omega)|omega))|((with_reducible refine Below.setCell ?_ ?_ _);rotate_left;focus (first|(simp;done)|(simp;omega)|omega))|(with_reducible refine Below.drew ?_)|((with_reducible apply Below.then);rotate_left;(with_reducible assumption)))),fun m' => .gemp _ _ _ trivial⟩
 | cons x xs =>
   refine ACallL.of_ev af Tryz.func128 rfl (fun a w=>Tryz.call128 a w) (congrArg Array.toList Tryz.results128) Tryz.ntmps128 fun B hB=>?_
   ((conv=>whnf);(repeat' ((first|refine gT ?_|(with_reducible refine ab (fun _=>?_) (fun _=>?_))|(refine qOpen.nilF rfl rfl rfl rfl rfl ?_)|(refine ak (apS (nb:=1) rfl rfl rfl rfl rfl rfl rfl rfl rfl rfl (by decide) (iq (_::_)) ⟨rfl,rfl,rfl⟩ rfl (by simp at hx ⊢; omega)) ?_))<;>(conv=>whnf))))
   (refine qcv hB [] [(0,0)] [(2,1)] ?_;repeat' (with_reducible first|exact trivial|refine And.intro ?_ ?_))
   all_goals first|rfl|(exact iA rfl (by simp [List.take_of_length_le]))
theorem mT (n m:Int):ACallL Tryz.prog 20 [.val (.int .i64 n),.val (.int .i64 m)] [.perm] (.val (.bool (decide (0≤n∧n≤m)))) [.perm]:=by
 refine ACallL.of_ev af Tryz.func20 rfl (fun a w=>Tryz.call20 a w) (congrArg Array.toList Tryz.results20) Tryz.ntmps20 fun B hB=>?_;((conv=>whnf);(repeat' ((first|(with_reducible refine ai (by assumption) ?_)|(with_reducible refine aj (by assumption) ?_)|((with_reducible refine ai ?_ ?_);focus decide)|((with_reducible refine aj ?_ ?_);focus decide)|with_reducible refine ab (fun _=>?_) (fun _=>?_))<;>(conv=>whnf))));all_goals (refine qcv hB [] [(0,0)] [] ?_;repeat' (with_reducible first|exact trivial|refine And.intro ?_ ?_));all_goals ((try congr 1);first|done|omega|(simp_all;done)|(simp_all;omega))
set_option maxRecDepth 10000 in
theorem jJ (x:Int) (j:Nat) (hj:j≤62):bits .and .i64 x ((2:Int) ^ j - 1)=x % (2:Int) ^ j:=by
 have hp:(0:Int) < 2 ^ j:=Int.pow_pos (by decide)
 have h2:(2:Int) ^ j≤2 ^ 62:=by
  have:=Nat.pow_le_pow_right (n:=2) (by decide) hj
  exact_mod_cast this
 have hm0:=Int.emod_nonneg x (show ((2:Int) ^ j)≠0 by omega)
 have hm1:=Int.emod_lt_of_pos x hp
 have e64:((2 ^ 64:Nat):Int)=18446744073709551616:=rfl
 have e62:(2:Int) ^ 62=4611686018427387904:=rfl
 have hN:((BitVec.ofInt 64 x &&& BitVec.ofInt 64 ((2:Int) ^ j - 1)).toNat:Int)=x % (2:Int) ^ j:=by
  have e1:(BitVec.ofInt 64 ((2:Int) ^ j - 1)).toNat=2 ^ j - 1:=by
   rw [BitVec.toNat_ofInt,e64,Int.emod_eq_of_lt (by omega) (by omega)]
   have h1:=Nat.one_le_two_pow (n:=j)
   have:((2:Int) ^ j - 1)=((2 ^ j - 1:Nat):Int):=by
    rw [Int.natCast_sub h1];simp
   rw [this];rfl
  rw [BitVec.toNat_and,e1,Nat.and_two_pow_sub_one_eq_mod,BitVec.toNat_ofInt]
  have hdvd:((2:Int) ^ j) ∣ ((2 ^ 64:Nat):Int):=by
   refine ⟨2 ^ (64 - j),?_⟩
   rw [← Int.pow_add,show j + (64 - j)=64 by omega];rfl
  rw [Int.natCast_emod,Int.toNat_of_nonneg (Int.emod_nonneg _ (by decide)),Int.emod_emod_of_dvd _ (by simpa using hdvd)]
  simp
 show IntKind.i64.wrap ((BitVec.ofInt 64 x &&& BitVec.ofInt 64 ((2:Int) ^ j - 1)).toNat:Int)=_
 rw [hN,IntKind.wrap_i64]
 omega
theorem hid {p:Prop} (h:p):Hid p:=h
theorem _root_.Go.RowKit.Below.then {w a b:World} (h:Below w.heap.size w a) (k:Below a.heap.size a b):Below w.heap.size w b:=h.trans (k.mono h.size)
theorem mM (x:Int):bits .and .i64 x 4294967295=x % 4294967296:=jJ x 32 (by decide)
theorem eZ {k:IntKind} {a b:Int} (h:a=b):Ending.returned (.int k a) = .returned (.int k b):=by rw [h]
theorem mW {a b:Bool} (h:a=b):Ending.returned (.bool a) = .returned (.bool b):=by rw [h]
def wadd (s n:Int):Int:=(s + n) % 4294967296
def ah (a b:Int):Int:=(a - b + 2147483648) % 4294967296 - 2147483648
def woff (a b:Int):Int:=(a - b) % 4294967296
theorem dK (s n:Int):0≤wadd s n∧wadd s n < 4294967296:=by unfold wadd;omega
theorem bY (a b:Int) : -2147483648≤ah a b∧ah a b < 2147483648:=by unfold ah;omega
theorem pK (a b:Int):0≤woff a b∧woff a b < 4294967296:=by unfold woff;omega
attribute [irreducible] wadd ah woff
theorem jh (s n:Int) (w:World):Calls Tryz.prog 131 #[.int .i64 s,.int .i64 n] w fun e w' => e = .returned (.int .i64 (wadd s n))∧w=w' := by
 go_enter Tryz.func131,Tryz.ntmps131
 go_wp2
 go_ret
 exact ⟨eZ (by simp only [mM,wrap64,wadd];omega),rfl⟩
theorem tO (s n:Int) (w:World):Calls Tryz.prog 63 #[.int .i64 s,.int .i64 n] w fun e w' => e = .returned (.int .i64 (wadd s n))∧w=w' := by
 go_enter Tryz.func63,Tryz.ntmps63
 go_wp2
 go_ret
 exact ⟨eZ (by unfold wadd;omega),rfl⟩
theorem ij (a b:Int) (w:World):Calls Tryz.prog 121 #[.int .i64 a,.int .i64 b] w fun e w' => e = .returned (.int .i64 (ah a b))∧w=w' := by
 go_enter Tryz.func121,Tryz.ntmps121
 go_wp2
 all_goals (go_ret;refine ⟨eZ ?_,rfl⟩)
 all_goals (simp only [mM,wrap64,ah] at *; omega)
theorem rV (a b:Int) (w:World):Calls Tryz.prog 64 #[.int .i64 a,.int .i64 b] w fun e w' => e = .returned (.int .i64 (ah a b))∧w=w' := by
 go_enter Tryz.func64,Tryz.ntmps64
 go_wp2
 go_ret
 exact ⟨eZ (by simp only [wrap32,wrap64,ah];omega),rfl⟩
def am (n m:Int):Bool:=decide (0≤n∧n≤m)
theorem kf {n m:Int} (h:am n m=true):0≤n∧n≤m:=by simpa [am] using h
theorem fZ {n m:Int} (h:0≤n∧n≤m):am n m=true:=by simpa [am] using h
theorem tW (n m:Int) (w:World):Calls Tryz.prog 20 #[.int .i64 n,.int .i64 m] w fun e w' => e = .returned (.bool (am n m))∧w=w' := by
 go_enter Tryz.func20,Tryz.ntmps20
 by_cases h1:0≤n<;>by_cases h2:n≤m
 all_goals go_wp2
 all_goals (go_ret;refine ⟨mW ?_,rfl⟩)
 all_goals (simp [am];omega)
theorem sh (n:Int) (w:World):Calls Tryz.prog 33 #[.int .i64 n] w fun e w' => e = .returned (.bool (am n 4294967295))∧w=w' := by
 go_enter Tryz.func33,Tryz.ntmps33
 go_wp2_with (go_at_call 20;refine (tW _ _ _).mono ?_;rintro e w' ⟨rfl,rfl⟩)
 go_ret
 exact ⟨rfl,rfl⟩
theorem eA (n:Int) (w:World):Calls Tryz.prog 84 #[.int .i64 n] w fun e w' => e = .returned (.bool (am n 4294967295))∧w=w' := by
 go_enter Tryz.func84,Tryz.ntmps84
 by_cases h1:0≤n<;>by_cases h2:n < 4294967296
 all_goals go_wp2
 all_goals (go_ret;refine ⟨mW ?_,rfl⟩)
 all_goals (simp [am];omega)
theorem tu (p n:Int) (hn:0 < n) (hn2:n≤4611686018427387904) (w:World):Calls Tryz.prog 124 #[.int .i64 p,.int .i64 n] w fun e w' => e = .returned (.int .i64 (p % n))∧w=w' := by
 have h1:=Int.tmod_lt_of_pos p hn
 have h2 : -n < p.tmod n:=by
  have:=Int.lt_tmod_of_pos p hn
  omega
 have e1:p.tmod n < 0→p % n=p.tmod n + n:=fun h=>by
  rw [Int.tmod_eq_emod] at h ⊢
  split at h
  ·have:=Int.emod_nonneg p (show n≠0 by omega);omega
  ·rename_i hc
   rw [if_neg hc]
   have:(n.natAbs:Int)=n:=by omega
   omega
 have e2:0≤p.tmod n→p % n=p.tmod n:=fun h=>by
  rw [Int.tmod_eq_emod] at h ⊢
  split at h
  ·rename_i hc;rw [if_pos hc];omega
  ·have:=Int.emod_lt_of_pos p hn
   have:(n.natAbs:Int)=n:=by omega
   omega
 by_cases h0:p.tmod n < 0
 ·have E:Hid (p % n=p.tmod n + n):=e1 h0
  have hz:(n == 0)=false:=by simp;omega
  clear e1 e2
  go_enter Tryz.func124,Tryz.ntmps124
  go_wp2
  all_goals (go_ret;exact ⟨eZ (by rw [E.out]),rfl⟩)
 ·have E:Hid (p % n=p.tmod n):=e2 (by omega)
  have hz:(n == 0)=false:=by simp;omega
  clear e1 e2
  go_enter Tryz.func124,Tryz.ntmps124
  go_wp2
  all_goals (go_ret;exact ⟨eZ (by rw [E.out]),rfl⟩)
theorem uG (a b:Int) (w:World):Calls Tryz.prog 88 #[.int .i64 a,.int .i64 b] w fun e w' => e = .returned (.int .i64 (woff a b))∧w=w' := by
 go_enter Tryz.func88,Tryz.ntmps88
 go_wp2_with (go_at_call 124;refine (tu _ _ (by decide) (by decide) _).mono ?_;rintro e w' ⟨rfl,rfl⟩)
 go_ret
 exact ⟨eZ (by simp only [wrap64,woff];omega),rfl⟩
attribute [irreducible] am
open Ieee
theorem lE:double.leastPlace = -1074:=by decide
theorem m7:double.binade=4503599627370496:=by decide
theorem ve:double.infRung=9218868437227405312:=by decide
theorem xC:double.signWeight=9223372036854775808:=by decide
def FN (n:Nat):Nat:=FloatKind.f64.nearest (n:Int)
theorem cut0 (neg:Bool) (n:Nat):Toward.even.cut neg n 0=n:=by
 simp [Toward.cut,Nat.mod_one]
theorem iS (n:Nat) (h0:0 < n) (h:n < 9007199254740992):n.log2≤52:=by
 have:=(Nat.log2_lt (n:=n) (k:=53) (by omega)).2 (by simpa using h)
 omega
theorem wg (l k:Nat) (hl:l≤52) (hk:k < 9007199254740992):min ((l + 1022) * 4503599627370496 + k) 9218868437227405312=(l + 1022) * 4503599627370496 + k:=by
 have:(l + 1022) * 4503599627370496≤1074 * 4503599627370496:=Nat.mul_le_mul_right _ (by omega)
 omega
theorem pk (n:Nat) (h0:0 < n) (h:n < 9007199254740992):n * 2 ^ (52 - n.log2) < 9007199254740992:=by
 have hl:=iS n h0 h
 have hhi:n < 2 ^ (n.log2 + 1):=Nat.lt_log2_self
 have h1:n * 2 ^ (52 - n.log2) < 2 ^ (n.log2 + 1) * 2 ^ (52 - n.log2):=Nat.mul_lt_mul_of_pos_right hhi (Nat.two_pow_pos _)
 rw [← Nat.pow_add,show n.log2 + 1 + (52 - n.log2)=53 by omega] at h1
 simpa using h1
theorem wG (n:Nat) (h0:0 < n) (h:n < 9007199254740992):4503599627370496≤n * 2 ^ (52 - n.log2):=by
 have hl:=iS n h0 h
 have h1:2 ^ n.log2 * 2 ^ (52 - n.log2)≤n * 2 ^ (52 - n.log2):=Nat.mul_le_mul_right _ (Nat.log2_self_le (by omega))
 rw [← Nat.pow_add,show n.log2 + (52 - n.log2)=52 by omega] at h1
 simpa using h1
theorem jC:FN 0=0:=by decide
theorem xr (n:Nat) (h0:0 < n) (h:n < 9007199254740992):FN n=(n.log2 + 1022) * 4503599627370496 + n * 2 ^ (52 - n.log2):=by
 have hl:=iS n h0 h
 have e1:=pk n h0 h
 have hn:decide ((n:Int) < 0)=false:=by simp
 have hna:(n:Int).natAbs=n:=by omega
 show double.nearest (decide ((n:Int) < 0)) (n:Int).natAbs 0=_
 rw [hn,hna]
 unfold Format.nearest
 rw [if_neg (show ¬ n=0 by omega)]
 have hmax:max ((0:Int) + (n.log2:Int) - (double.fractionBits:Int)) double.leastPlace=(n.log2:Int) - 52:=by rw [lE,show (double.fractionBits:Int)=52 from rfl];omega
 rw [hmax]
 have ea:((0:Int) - ((n.log2:Int) - 52)).toNat=52 - n.log2:=by omega
 have eb:((n.log2:Int) - 52 - 0).toNat=0:=by omega
 have ec:((n.log2:Int) - 52 - double.leastPlace).toNat=n.log2 + 1022:=by rw [lE];omega
 simp only [ea,eb,ec,cut0,Nat.shiftLeft_eq,Format.word,Bool.false_eq_true,if_false,m7,ve]
 exact wg _ _ hl e1
theorem vx (l k:Nat) (hl:l≤52) (hk:k < 9007199254740992):(l + 1022) * 4503599627370496 + k < 9218868437227405312∧4503599627370496≤(l + 1022) * 4503599627370496 + k:=by
 have h1:(l + 1022) * 4503599627370496≤4836865999795912704:=by omega
 refine ⟨?_,Nat.le_trans (Nat.le_mul_of_pos_left _ (Nat.succ_pos _)) (Nat.le_add_right _ _)⟩
 generalize (l + 1022) * 4503599627370496=z at *
 omega
theorem vN (l k:Nat) (hl:l≤52) (hk:k < 9007199254740992):((l + 1022) * 4503599627370496 + k) / 9223372036854775808 % 2=0∧((l + 1022) * 4503599627370496 + k) % 9223372036854775808=(l + 1022) * 4503599627370496 + k ∧
 ¬ ((l + 1022) * 4503599627370496 + k) < 4503599627370496∧((l + 1022) * 4503599627370496 + k) < 9218868437227405312:=by
 obtain ⟨h1,h2⟩:=vx l k hl hk
 generalize (l + 1022) * 4503599627370496 + k=z at *
 have h3:z < 9223372036854775808:=Nat.lt_trans h1 (by decide)
 refine ⟨?_,Nat.mod_eq_of_lt h3,by omega,h1⟩
 rw [Nat.div_eq_of_lt h3]
theorem wW (l k:Nat) (hk:k < 9007199254740992) (h2:4503599627370496≤k):((l + 1022) * 4503599627370496 + k) % 4503599627370496=k - 4503599627370496∧((l + 1022) * 4503599627370496 + k) / 4503599627370496=l + 1023:=by
 rw [Nat.add_comm,Nat.add_mul_mod_self_right,Nat.add_mul_div_right _ _ (by decide:0 < 4503599627370496)]
 have h3:k / 4503599627370496=1:=by omega
 rw [h3]
 omega
theorem uD (l k:Nat) (hl:l≤52) (hk:k < 9007199254740992) (h2:4503599627370496≤k):double.read ((l + 1022) * 4503599627370496 + k) = .number false k ((l:Int) - 52):=by
 obtain ⟨a1,a2,a3,a4⟩:=vN l k hl hk
 obtain ⟨b1,b2⟩:=wW l k hk h2
 generalize (l + 1022) * 4503599627370496 + k=z at *
 unfold Format.read
 rw [xC,m7,ve,lE,a1,a2]
 dsimp only
 rw [if_neg a3,if_pos a4,b1,b2,Nat.add_sub_cancel' h2]
 have:(-1074:Int) + ((l + 1023 - 1:Nat):Int)=(l:Int) - 52:=by omega
 rw [this]
 rfl
theorem uo (n:Nat) (h0:0 < n) (h:n < 9007199254740992):double.read (FN n) = .number false (n * 2 ^ (52 - n.log2)) ((n.log2:Int) - 52):=by
 have hl:=iS n h0 h
 have e1:=pk n h0 h
 have e2:=wG n h0 h
 rw [xr n h0 h]
 generalize n * 2 ^ (52 - n.log2)=k at *
 generalize n.log2=l at *
 exact uD l k hl e1 e2
theorem rz:double.read 0 = .number false 0 (-1074):=by decide
def plc (n:Nat):Int:=if n=0 then -1074 else (n.log2:Int) - 52
def dig (n:Nat):Nat:=if n=0 then 0 else n * 2 ^ (52 - n.log2)
theorem gX (n:Nat) (h:n < 9007199254740992):double.read (FN n) = .number false (dig n) (plc n):=by
 by_cases h0:n=0
 ·subst h0
  rw [jC]
  show double.read 0 = .number false 0 (-1074)
  exact rz
 ·rw [uo n (by omega) h];simp [dig,plc,h0]
theorem ol (n:Nat) (h:n < 9007199254740992):plc n≤0∧dig n=n * 2 ^ (-(plc n)).toNat:=by
 by_cases h0:n=0
 ·subst h0;exact ⟨by decide,by simp [dig]⟩
 ·have hl:=iS n (by omega) h
  simp only [dig,plc,if_neg h0]
  refine ⟨by omega,?_⟩
  rw [show (-((n.log2:Int) - 52)).toNat=52 - n.log2 by omega]
theorem dN (m u:Nat):signed false m u=((m * 2 ^ u:Nat):Int):=by simp [signed,Nat.shiftLeft_eq]
theorem jO (m u:Nat):signed true m u = -((m * 2 ^ u:Nat):Int):=by simp [signed,Nat.shiftLeft_eq]
theorem iU (x:Nat) (s:Bool) (m:Nat) (e:Int) (n:Nat) (h:n < 9007199254740992) (hx:double.read x = .number s m e) :
 ∃ u:Nat,(e + (u:Int)).toNat=e + u∧double.order x (FN n)=some (compare (signed s m (e + (u:Int)).toNat) ((n * 2 ^ u:Nat):Int)):=by
 obtain ⟨hp,hd⟩:=ol n h
 refine ⟨(-(min e (plc n))).toNat,by omega,?_⟩
 unfold Format.order
 rw [hx,gX n h]
 simp only [Datum.order]
 rw [dN,hd,Nat.mul_assoc, ← Nat.pow_add]
 rw [show (e - min e (plc n)).toNat=(e + ((-(min e (plc n))).toNat:Int)).toNat by omega]
 rw [show (-(plc n)).toNat + (plc n - min e (plc n)).toNat=(-(min e (plc n))).toNat by omega]
theorem oa {a b:Int} (h:a < b):compare a b = .lt:=by simp [compare,compareOfLessAndEq,h]
theorem jc (a:Int):compare a a = .eq:=by simp [compare,compareOfLessAndEq]
theorem kI {a b:Int} (h:b < a):compare a b = .gt:=by
 simp only [compare,compareOfLessAndEq]
 rw [if_neg (by omega),if_neg (by omega)]
theorem gv (a b:Nat) (ha:a < 9007199254740992) (hb:b < 9007199254740992):double.order (FN a) (FN b)=some (compare (a:Int) (b:Int)):=by
 obtain ⟨u,hu,ho⟩:=iU (FN a) false (dig a) (plc a) b hb (gX a ha)
 obtain ⟨hp,hd⟩:=ol a ha
 rw [ho,dN,hd,Nat.mul_assoc, ← Nat.pow_add,show (-(plc a)).toNat + (plc a + (u:Int)).toNat=u by omega]
 congr 1
 have hu:0 < 2 ^ u:=Nat.two_pow_pos u
 rcases Nat.lt_trichotomy a b with hlt|heq|hgt
 ·rw [oa (Int.ofNat_lt.2 hlt),oa (Int.ofNat_lt.2 (Nat.mul_lt_mul_of_pos_right hlt hu))]
 ·subst heq
  rw [jc,jc]
 ·rw [kI (Int.ofNat_lt.2 hgt),kI (Int.ofNat_lt.2 (Nat.mul_lt_mul_of_pos_right hgt hu))]
def inF (x:Nat) (most:Nat):Bool:=(double.order x (FN 0) == some .gt || double.order x (FN 0) == some .eq) && (double.order x (FN most) == some .lt || double.order x (FN most) == some .eq)
theorem oj (s:Bool) (n d:Nat):Toward.zero.cut s n d=n / 2 ^ d:=by
 unfold Toward.cut
 simp only [Bool.toNat_false,Nat.add_zero,Nat.shiftLeft_eq,Nat.one_mul]
 by_cases h:d≤n.log2 + 2
 ·rw [Nat.min_eq_left h]
 ·rw [Nat.min_eq_right (by omega)]
  have h1:n < 2 ^ (n.log2 + 1):=Nat.lt_log2_self
  have h2:2 ^ (n.log2 + 1)≤2 ^ (n.log2 + 2):=Nat.pow_le_pow_right (by decide) (by omega)
  have h3:2 ^ (n.log2 + 2)≤2 ^ d:=Nat.pow_le_pow_right (by decide) (by omega)
  rw [Nat.div_eq_of_lt (by omega),Nat.div_eq_of_lt (by omega)]
theorem xp {a b:Int} (h:(some (compare a b) == some Ordering.gt || some (compare a b) == some Ordering.eq)=true):b≤a:=by
 simp only [compare,compareOfLessAndEq] at h
 split at h
 ·simp at h
 ·omega
theorem xe {a b:Int} (h:(some (compare a b) == some Ordering.lt || some (compare a b) == some Ordering.eq)=true):a≤b:=by
 simp only [compare,compareOfLessAndEq] at h
 split at h
 ·omega
 ·split at h
  ·omega
  ·simp at h
theorem pt (x most:Nat) (hm:most < 9007199254740992) (h:inF x most=true) : ∃ n:Nat,n≤most∧floatToIntVal .f64 x .i64=some (n:Int):=by
 unfold inF at h
 simp only [Bool.and_eq_true] at h
 obtain ⟨h1,h2⟩:=h
 cases hx:double.read x with
 | nan s t=>rw [Format.order,hx] at h1;simp [Datum.order] at h1
 | infinity s =>
   rw [Format.order,hx,gX _ (by decide)] at h1
   rw [Format.order,hx,gX _ hm] at h2
   cases s<;>simp [Datum.order] at h1 h2
 | number s m e =>
   obtain ⟨u,hu,ho⟩:=iU x s m e 0 (by decide) hx
   obtain ⟨u', hu', ho'⟩:=iU x s m e most hm hx
   rw [ho] at h1
   rw [ho'] at h2
   have g1:=xp h1
   have g2:=xe h2
   have hmag:s=true→m=0:=by
    intro hs
    subst hs
    rw [jO] at g1
    have hp:0 < 2 ^ (e + (u:Int)).toNat:=Nat.two_pow_pos _
    rcases Nat.eq_zero_or_pos m with h0|h0
    ·exact h0
    ·have:=Nat.mul_pos h0 hp
     omega
   have key:(m * 2 ^ e.toNat) / 2 ^ (-e).toNat≤most:=by
    have h3:m * 2 ^ (e + (u' : Int)).toNat≤most * 2 ^ u' := by
     cases s with
     | false=>rw [dN] at g2;exact_mod_cast g2
     | true=>rw [hmag rfl];omega
    rcases Int.le_total 0 e with he|he
    ·rw [show (-e).toNat=0 by omega,Nat.pow_zero,Nat.div_one]
     rw [show (e + (u' : Int)).toNat=e.toNat + u' by omega,Nat.pow_add, ← Nat.mul_assoc] at h3
     exact Nat.le_of_mul_le_mul_right h3 (Nat.two_pow_pos _)
    ·rw [show e.toNat=0 by omega,Nat.pow_zero,Nat.mul_one]
     have h4:m≤most * 2 ^ (-e).toNat:=by
      have h5:m * 2 ^ (e + (u' : Int)).toNat≤(most * 2 ^ (-e).toNat) * 2 ^ (e + (u' : Int)).toNat:=by
       rw [Nat.mul_assoc, ← Nat.pow_add,show (-e).toNat + (e + (u' : Int)).toNat=u' by omega]
       exact h3
      exact Nat.le_of_mul_le_mul_right h5 (Nat.two_pow_pos _)
     calc m / 2 ^ (-e).toNat≤(most * 2 ^ (-e).toNat) / 2 ^ (-e).toNat:=Nat.div_le_div_right h4
      _=most:=Nat.mul_div_cancel _ (Nat.two_pow_pos _)
   refine ⟨(m * 2 ^ e.toNat) / 2 ^ (-e).toNat,key,?_⟩
   unfold floatToIntVal
   have ht:(FloatKind.f64.decode x).toInt .zero=some (((m * 2 ^ e.toNat) / 2 ^ (-e).toNat:Nat):Int):=by
    show (double.read x).toInt .zero=_
    rw [hx]
    simp only [Datum.toInt,Datum.integral,oj,Nat.shiftLeft_eq]
    cases s with
    | false=>rw [dN];simp
    | true=>rw [jO,hmag rfl];simp
   rw [ht]
   simp only []
   generalize (m * 2 ^ e.toNat) / 2 ^ (-e).toNat=z at *
   rw [if_pos]
   refine ⟨?_,?_⟩
   ·show (-9223372036854775808:Int)≤_;omega
   ·show _≤(9223372036854775807:Int);omega
theorem t0 (n:Nat) (h:n < 9007199254740992):floatToIntVal .f64 (FN n) .i64=some (n:Int):=by
 obtain ⟨hp,hd⟩:=ol n h
 unfold floatToIntVal
 have ht:(FloatKind.f64.decode (FN n)).toInt .zero=some (n:Int):=by
  show (double.read (FN n)).toInt .zero=_
  rw [gX n h]
  simp only [Datum.toInt,Datum.integral,oj,Nat.shiftLeft_eq,dN]
  rw [hd,show (plc n).toNat=0 by omega]
  simp only [Nat.pow_zero,Nat.mul_one]
  rw [Nat.mul_div_cancel _ (Nat.two_pow_pos _)]
 rw [ht]
 simp only []
 rw [if_pos]
 refine ⟨?_,?_⟩
 ·show (-9223372036854775808:Int)≤_;omega
 ·show _≤(9223372036854775807:Int);omega
theorem xj (n most:Nat) (h:n < 9007199254740992) (hm:most < 9007199254740992):inF (FN n) most=decide (n≤most):=by
 unfold inF
 rw [gv n 0 h (by decide),gv n most h hm]
 by_cases h1:n≤most
 ·have e2:(some (compare (n:Int) (most:Int)) == some .lt || some (compare (n:Int) (most:Int)) == some .eq)=true:=by
   rcases Nat.lt_or_eq_of_le h1 with h2|h2
   ·rw [oa (Int.ofNat_lt.2 h2)];rfl
   ·subst h2;rw [jc];rfl
  have e1:(some (compare (n:Int) ((0:Nat):Int)) == some .gt || some (compare (n:Int) ((0:Nat):Int)) == some .eq)=true:=by
   rcases Nat.eq_zero_or_pos n with h2|h2
   ·subst h2;rw [jc];rfl
   ·rw [kI (Int.ofNat_lt.2 h2)];rfl
  rw [e1,e2];simp [h1]
 ·rw [kI (show (most:Int) < (n:Int) by omega)]
  simp [h1]
theorem kW (n:Nat):floatOfInt .f64 (n:Int)=FN n:=rfl
attribute [irreducible] FN inF
def cutF (x:Nat):Int:=(floatToIntVal .f64 x .i64).getD 0
def dP (x most:Nat):Int:=if inF x most then cutF x else 0
def isF (x most:Nat):Bool:=inF x most && (double.order (FN (cutF x).toNat) x == some .eq)
theorem vX (x most:Nat) (hm:most < 9007199254740992) (h:inF x most=true):0≤cutF x∧cutF x≤most:=by
 obtain ⟨n,hn,hc⟩:=pt x most hm h
 simp [cutF,hc];omega
theorem sG (x most:Nat) (hm:most < 9007199254740992) (h:isF x most=true):0≤cutF x∧cutF x≤most:=by
 unfold isF at h
 exact vX x most hm (by simp at h;exact h.1)
theorem lL (n:Nat) (h:n < 9007199254740992):cutF (FN n)=n:=by
 simp [cutF,t0 n h]
theorem rN (n most:Nat) (h:n < 9007199254740992) (hm:most < 9007199254740992):isF (FN n) most=decide (n≤most):=by
 unfold isF
 rw [xj n most h hm,lL n h]
 rw [show ((n:Int)).toNat=n by omega,gv n n h h,jc]
 simp
set_option maxRecDepth 100000 in
theorem pY (x:Nat) (most:Int) (h0:0≤most) (hm:most < 9007199254740992) (w:World) :
 Calls Tryz.prog 157 #[.float .f64 x,.int .i64 most] w fun e w' => e = .returned (.tuple #[.int .i64 (dP x most.toNat),.bool (isF x most.toNat)])∧w=w' := by
 have hF:floatOfInt .f64 most=FN most.toNat:=by rw [← kW,Int.toNat_of_nonneg h0]
 by_cases hin:inF x most.toNat=true
 ·obtain ⟨n,hn,hcut⟩:=pt x most.toNat (by omega) hin
  have hc : ∀ w,(convert 179 3 (.float .f64 x)).run Tryz.prog w = .ok (.int .i64 n) w:=fun w=>run_convert_float_int w 179 3 .f64 .i64 x n (by rw [Tryz.underlying179];rfl) Tryz.underlying3 hcut
  have e1:cutF x=n:=by simp [cutF,hcut]
  have e2:floatOfInt .f64 (n:Int)=FN n:=kW n
  have H:Hid (∀ b,(double.order (FN n) x == some .eq)=b→Value.bool b = .bool (isF x most.toNat)):=fun b hb=>by
   unfold isF;rw [hin,e1,show ((n:Int)).toNat=n by omega, ← hb];rfl
  have Hn:Hid (Value.int .i64 (n:Int) = .int .i64 (dP x most.toNat)):=by unfold Hid dP;rw [if_pos hin,e1]
  unfold inF at hin
  simp only [Bool.and_eq_true,jC] at hin
  obtain ⟨g1,g2⟩:=hin
  rw [← hF] at g2
  have g1' : (FloatKind.f64.format.order x 0 == some .gt || FloatKind.f64.format.order x 0 == some .eq)=true:=g1
  have g2' : (FloatKind.f64.format.order x (floatOfInt .f64 most) == some .lt || FloatKind.f64.format.order x (floatOfInt .f64 most) == some .eq)=true:=g2
  clear g1 g2 hF e1 e2 hcut
  go_enter Tryz.func157,Tryz.ntmps157
  go_wp2
  go_ret2
  simp only []
  rw [← Hn.out, ← H.out _ (by rw [← kW])]
  exact ⟨rfl,trivial⟩
 ·have hin' : inF x most.toNat=false:=by simpa using hin
  have Hn:Hid (Value.int .i64 0 = .int .i64 (dP x most.toNat)):=by unfold Hid dP;rw [hin'];rfl
  have H:Hid (Value.bool false = .bool (isF x most.toNat)):=by unfold isF Hid;rw [hin'];rfl
  unfold inF at hin'
  rw [jC, ← hF] at hin'
  by_cases g1:(FloatKind.f64.format.order x 0 == some .gt || FloatKind.f64.format.order x 0 == some .eq)=true
  ·have g2:(FloatKind.f64.format.order x (floatOfInt .f64 most) == some .lt || FloatKind.f64.format.order x (floatOfInt .f64 most) == some .eq)=false:=by
    have g1' : (double.order x 0 == some .gt || double.order x 0 == some .eq)=true:=g1
    rw [g1', Bool.true_and] at hin'; exact hin'
   clear hin hin' hF
   go_enter Tryz.func157,Tryz.ntmps157
   go_wp2
   go_ret2
   simp only []
   rw [← Hn.out, ← H.out]
   exact ⟨rfl,trivial⟩
  ·have g1:(FloatKind.f64.format.order x 0 == some .gt || FloatKind.f64.format.order x 0 == some .eq)=false:=by simpa using g1
   clear hin hin' hF
   go_enter Tryz.func157,Tryz.ntmps157
   go_wp2
   go_ret2
   simp only []
   rw [← Hn.out, ← H.out]
   exact ⟨rfl,trivial⟩
theorem rm (x:Nat) (w:World):Calls Tryz.prog 157 #[.float .f64 x,.int .i64 4294967295] w fun e w' => e = .returned (.tuple #[.int .i64 (dP x 4294967295),.bool (isF x 4294967295)])∧w=w' :=
 pY x 4294967295 (by decide) (by decide) w
theorem rE (x:Nat) (w:World):Calls Tryz.prog 157 #[.float .f64 x,.int .i64 65536] w fun e w' => e = .returned (.tuple #[.int .i64 (dP x 65536),.bool (isF x 65536)])∧w=w' :=
 pY x 65536 (by decide) (by decide) w
def bS (re im:Nat):Bool:=isF re 4294967295 && isF im 65536
def aV (re im:Nat):Int:=if bS re im then cutF re else 0
def bg (re im:Nat):Int:=if bS re im then cutF im else 0
def gf (re im:Nat):Int:=if bS re im then 0 else 1
theorem jg {re im:Nat} (h:bS re im=true):0≤aV re im∧aV re im≤4294967295∧0≤bg re im∧bg re im≤65536:=by
 unfold aV bg
 rw [if_pos h,if_pos h]
 unfold bS at h
 simp only [Bool.and_eq_true] at h
 have:=sG re _ (by decide) h.1
 have:=sG im _ (by decide) h.2
 omega
theorem jn {re im:Nat} (h:bS re im=true):gf re im=0:=by unfold gf;rw [if_pos h]
theorem lD {re im:Nat} (h:bS re im=false):gf re im=1:=by unfold gf;rw [h];rfl
set_option maxRecDepth 100000 in
theorem eJ (re im:Nat) (w:World):Calls Tryz.prog 150 #[.complex .f64 re im] w fun e w' => e = .returned (.tuple #[.int .i64 (aV re im),.int .i64 (bg re im),.int .i64 (gf re im)])∧w=w' := by
 have key : ∀ a b,isF re 4294967295=a→isF im 65536=b→Hid (aV re im=(if a && b then dP re 4294967295 else 0)∧bg re im=(if a && b then dP im 65536 else 0)∧gf re im=(if a && b then 0 else 1)):=by
  intro a b ha hb
  have hk:bS re im=(a && b):=by unfold bS;rw [ha,hb]
  unfold aV bg gf Hid
  rw [hk]
  cases a<;>cases b<;>simp
  unfold isF at ha hb
  simp at ha hb
  unfold dP
  rw [if_pos ha.1,if_pos hb.1]
  exact ⟨rfl,rfl⟩
 cases ha:isF re 4294967295<;>cases hb:isF im 65536
 all_goals
  have K:=key _ _ ha hb
  clear key
  go_enter Tryz.func150,Tryz.ntmps150
  go_wp2_with (first|(go_at_call 157;(with_reducible refine (rm _ _).mono ?_);rintro e w' ⟨rfl,rfl⟩)|(go_at_call 157;(with_reducible refine (rE _ _).mono ?_);rintro e w' ⟨rfl,rfl⟩))
  go_ret3
  obtain ⟨k1,k2,k3⟩:=K.out
  rw [k1,k2,k3]
  exact ⟨rfl,rfl⟩
def fI (n:Int):Nat:=floatOfInt .f64 n
theorem rK (n:Nat):fI (n:Int)=FN n:=by unfold fI;exact kW n
theorem vZ:fI 0=0:=(rK 0).trans jC
theorem mG {n:Int} (h:0≤n):fI n=FN n.toNat:=by rw [← rK,Int.toNat_of_nonneg h]
theorem of_c (s n:Int) (w:World):Calls Tryz.prog 149 #[.int .i64 s,.int .i64 n] w fun e w' => e = .returned (.complex .f64 (fI s) (fI n))∧w=w' := by
 go_enter Tryz.func149,Tryz.ntmps149
 go_wp2
 go_ret
 exact ⟨rfl,rfl⟩
def ofOk (s n:Int):Bool:=am s 4294967295 && am n 65536
def ofS (s n:Int):Nat:=if ofOk s n then fI s else 0
def ofN (s n:Int):Nat:=if ofOk s n then fI n else 0
def ofE (s n:Int):Int:=if ofOk s n then 0 else 1
theorem of_t {s n:Int} (h:ofOk s n=true):ofS s n=fI s∧ofN s n=fI n∧ofE s n=0:=by unfold ofS ofN ofE;rw [h];exact ⟨rfl,rfl,rfl⟩
theorem of_f {s n:Int} (h:ofOk s n=false):ofS s n=0∧ofN s n=0∧ofE s n=1:=by unfold ofS ofN ofE;rw [h];exact ⟨rfl,rfl,rfl⟩
theorem vL {s n:Int} (h:0≤s∧s≤4294967295∧0≤n∧n≤65536):ofOk s n=true:=by
 unfold ofOk;rw [fZ (by omega),fZ (by omega)];rfl
set_option maxRecDepth 100000 in
theorem u0 (s n:Int) (w:World):Calls Tryz.prog 143 #[.int .i64 s,.int .i64 n] w fun e w' => e = .returned (.tuple #[.complex .f64 (ofS s n) (ofN s n),.int .i64 (ofE s n)])∧w=w' := by
 cases h1:am s 4294967295
 ·have K:Hid (ofOk s n=false):=by unfold ofOk Hid;rw [h1];rfl
  go_enter Tryz.func143,Tryz.ntmps143
  go_wp2_with (go_at_call 84;(with_reducible refine (eA _ _).mono ?_);rintro e w' ⟨rfl,rfl⟩)
  go_ret2
  obtain ⟨k1,k2,k3⟩:=of_f K.out
  rw [k1,k2,k3]
  exact ⟨rfl,rfl⟩
 ·by_cases h2:0≤n
  ·by_cases h3:n≤65536
   ·have K:Hid (ofOk s n=true):=by unfold ofOk Hid;rw [h1,fZ ⟨h2,h3⟩];rfl
    go_enter Tryz.func143,Tryz.ntmps143
    go_wp2_with (first|(go_at_call 84;(with_reducible refine (eA _ _).mono ?_);rintro e w' ⟨rfl,rfl⟩)|(go_at_call 149;(with_reducible refine (of_c _ _ _).mono ?_);rintro e w' ⟨rfl,rfl⟩))
    go_ret2
    obtain ⟨k1,k2,k3⟩:=of_t K.out
    rw [k1,k2,k3]
    exact ⟨rfl,rfl⟩
   ·have K:Hid (ofOk s n=false):=by unfold ofOk Hid;rw [h1];simp [am];omega
    go_enter Tryz.func143,Tryz.ntmps143
    go_wp2_with (first|(go_at_call 84;(with_reducible refine (eA _ _).mono ?_);rintro e w' ⟨rfl,rfl⟩)|(go_at_call 149;(with_reducible refine (of_c _ _ _).mono ?_);rintro e w' ⟨rfl,rfl⟩))
    go_ret2
    obtain ⟨k1,k2,k3⟩:=of_f K.out
    rw [k1,k2,k3]
    exact ⟨rfl,rfl⟩
  ·have K:Hid (ofOk s n=false):=by unfold ofOk Hid;rw [h1];simp [am];omega
   go_enter Tryz.func143,Tryz.ntmps143
   go_wp2_with (first|(go_at_call 84;(with_reducible refine (eA _ _).mono ?_);rintro e w' ⟨rfl,rfl⟩)|(go_at_call 149;(with_reducible refine (of_c _ _ _).mono ?_);rintro e w' ⟨rfl,rfl⟩))
   go_ret2
   obtain ⟨k1,k2,k3⟩:=of_f K.out
   rw [k1,k2,k3]
   exact ⟨rfl,rfl⟩
def eh (re im:Nat) (x:Int):Bool:=bS re im && am x 4294967295
def hasB (re im:Nat) (x:Int):Bool:=eh re im x && decide (woff x (aV re im) < bg re im)
def hasE (re im:Nat) (x:Int):Int:=if eh re im x then 0 else 1
theorem vg {re im:Nat} {x:Int} (h:eh re im x=true):hasB re im x=decide (woff x (aV re im) < bg re im)∧hasE re im x=0:=by unfold hasB hasE;rw [h];exact ⟨rfl,rfl⟩
theorem vr {re im:Nat} {x:Int} (h:eh re im x=false):hasB re im x=false∧hasE re im x=1:=by unfold hasB hasE;rw [h];exact ⟨rfl,rfl⟩
set_option maxRecDepth 100000 in
theorem rO (re im:Nat) (x:Int) (w:World):Calls Tryz.prog 144 #[.complex .f64 re im,.int .i64 x] w fun e w' => e = .returned (.tuple #[.bool (hasB re im x),.int .i64 (hasE re im x)])∧w=w' := by
 cases h1:bS re im
 ·have K:Hid (eh re im x=false):=by unfold eh Hid;rw [h1];rfl
  have hE:=lD h1
  go_enter Tryz.func144,Tryz.ntmps144
  go_wp2_with (go_at_call 150;(with_reducible refine (eJ _ _ _).mono ?_);rintro e w' ⟨rfl,rfl⟩)
  go_ret2
  obtain ⟨k1,k2⟩:=vr K.out
  rw [k1,k2]
  exact ⟨rfl,rfl⟩
 ·have hE:=jn h1
  have hb:=jg h1
  cases h2:am x 4294967295
  ·have K:Hid (eh re im x=false):=by unfold eh Hid;rw [h1,h2];rfl
   go_enter Tryz.func144,Tryz.ntmps144
   go_wp2_with (first|(go_at_call 150;(with_reducible refine (eJ _ _ _).mono ?_);rintro e w' ⟨rfl,rfl⟩)|(go_at_call 84;(with_reducible refine (eA _ _).mono ?_);rintro e w' ⟨rfl,rfl⟩))
   go_ret2
   obtain ⟨k1,k2⟩:=vr K.out
   rw [k1,k2]
   exact ⟨rfl,rfl⟩
  ·have K:Hid (eh re im x=true):=by unfold eh Hid;rw [h1,h2];rfl
   have hx:=kf h2
   go_enter Tryz.func144,Tryz.ntmps144
   go_wp2_with (first|(go_at_call 150;(with_reducible refine (eJ _ _ _).mono ?_);rintro e w' ⟨rfl,rfl⟩)|(go_at_call 84;(with_reducible refine (eA _ _).mono ?_);rintro e w' ⟨rfl,rfl⟩))
   go_ret2
   obtain ⟨k1,k2⟩:=vg K.out
   rw [k1,k2]
   rw [mM]
   unfold woff
   exact ⟨rfl,rfl⟩
def ee (a n b k:Int):Int:=if max (ah a b) 0 < min (ah a b + n) k then wadd b (max (ah a b) 0) else 0
def dW (a n b k:Int):Int:=if max (ah a b) 0 < min (ah a b + n) k then min (ah a b + n) k - max (ah a b) 0 else 0
def dj (p1 p2 q1 q2:Nat):Bool:=bS p1 p2 && bS q1 q2
def jI (p1 p2 q1 q2:Nat):Nat:=if dj p1 p2 q1 q2 then fI (ee (aV p1 p2) (bg p1 p2) (aV q1 q2) (bg q1 q2)) else 0
def jq (p1 p2 q1 q2:Nat):Nat:=if dj p1 p2 q1 q2 then fI (dW (aV p1 p2) (bg p1 p2) (aV q1 q2) (bg q1 q2)) else 0
def jH (p1 p2 q1 q2:Nat):Int:=if dj p1 p2 q1 q2 then 0 else 1
theorem nk {p1 p2 q1 q2:Nat} (h:dj p1 p2 q1 q2=true):jI p1 p2 q1 q2=fI (ee (aV p1 p2) (bg p1 p2) (aV q1 q2) (bg q1 q2)) ∧
 jq p1 p2 q1 q2=fI (dW (aV p1 p2) (bg p1 p2) (aV q1 q2) (bg q1 q2))∧jH p1 p2 q1 q2=0:=by unfold jI jq jH;rw [h];exact ⟨rfl,rfl,rfl⟩
theorem rr {p1 p2 q1 q2:Nat} (h:dj p1 p2 q1 q2=false):jI p1 p2 q1 q2=0∧jq p1 p2 q1 q2=0∧jH p1 p2 q1 q2=1:=by unfold jI jq jH;rw [h];exact ⟨rfl,rfl,rfl⟩
set_option maxRecDepth 100000 in
theorem qS (p1 p2 q1 q2:Nat) (w:World):Calls Tryz.prog 159 #[.complex .f64 p1 p2,.complex .f64 q1 q2] w fun e w' =>
 e = .returned (.tuple #[.complex .f64 (jI p1 p2 q1 q2) (jq p1 p2 q1 q2),.int .i64 (jH p1 p2 q1 q2)])∧w=w' := by
 cases h1:bS p1 p2
 ·have K:Hid (dj p1 p2 q1 q2=false):=by unfold dj Hid;rw [h1];rfl
  have hE:=lD h1
  go_enter Tryz.func159,Tryz.ntmps159
  go_wp2_with (go_at_call 150;(with_reducible refine (eJ _ _ _).mono ?_);rintro e w' ⟨rfl,rfl⟩)
  go_ret2
  obtain ⟨k1,k2,k3⟩:=rr K.out
  rw [k1,k2,k3]
  exact ⟨rfl,rfl⟩
 ·have hE:=jn h1
  have hb:=jg h1
  cases h2:bS q1 q2
  ·have K:Hid (dj p1 p2 q1 q2=false):=by unfold dj Hid;rw [h1,h2];rfl
   have hE' := lD h2
   go_enter Tryz.func159,Tryz.ntmps159
   go_wp2_with (go_at_call 150;(with_reducible refine (eJ _ _ _).mono ?_);rintro e w' ⟨rfl,rfl⟩)
   go_ret2
   obtain ⟨k1,k2,k3⟩:=rr K.out
   rw [k1,k2,k3]
   exact ⟨rfl,rfl⟩
  ·have K:Hid (dj p1 p2 q1 q2=true):=by unfold dj Hid;rw [h1,h2];rfl
   have hE' := jn h2
   have hb' := jg h2
   have hd:=bY (aV p1 p2) (aV q1 q2)
   by_cases hlt:max (ah (aV p1 p2) (aV q1 q2)) 0 < min (ah (aV p1 p2) (aV q1 q2) + bg p1 p2) (bg q1 q2)
   ·have K2:Hid (ee (aV p1 p2) (bg p1 p2) (aV q1 q2) (bg q1 q2)=wadd (aV q1 q2) (max (ah (aV p1 p2) (aV q1 q2)) 0) ∧
     dW (aV p1 p2) (bg p1 p2) (aV q1 q2) (bg q1 q2)=min (ah (aV p1 p2) (aV q1 q2) + bg p1 p2) (bg q1 q2) - max (ah (aV p1 p2) (aV q1 q2)) 0):=by
     unfold ee dW Hid;rw [if_pos hlt,if_pos hlt];exact ⟨rfl,rfl⟩
    go_enter Tryz.func159,Tryz.ntmps159
    go_wp2_with (first|(go_at_call 150;(with_reducible refine (eJ _ _ _).mono ?_);rintro e w' ⟨rfl,rfl⟩)|(go_at_call 121;(with_reducible refine (ij _ _ _).mono ?_);rintro e w' ⟨rfl,rfl⟩)|(go_at_call 131;(with_reducible refine (jh _ _ _).mono ?_);rintro e w' ⟨rfl,rfl⟩)|(go_at_call 149;(with_reducible refine (of_c _ _ _).mono ?_);rintro e w' ⟨rfl,rfl⟩))
    all_goals
     go_ret2
     obtain ⟨k1,k2,k3⟩:=nk K.out
     obtain ⟨m1,m2⟩:=K2.out
     rw [k1,k2,k3,m1,m2]
     generalize aV p1 p2=a at *
     generalize aV q1 q2=b at *
     generalize ah a b=d at *
     generalize bg p1 p2=n at *
     generalize bg q1 q2=k at *
     first|rw [show max d 0=0 by omega]|rw [show max d 0=d by omega]
     first|rw [show min (d + n) k=k by omega]|rw [show min (d + n) k=d + n by omega]
     first|exact ⟨rfl,rfl⟩|(simp only [Int.sub_zero];exact ⟨rfl,trivial⟩)|exact ⟨by simp,rfl⟩
   ·have K2:Hid (ee (aV p1 p2) (bg p1 p2) (aV q1 q2) (bg q1 q2)=0∧dW (aV p1 p2) (bg p1 p2) (aV q1 q2) (bg q1 q2)=0):=by
     unfold ee dW Hid;rw [if_neg hlt,if_neg hlt];exact ⟨rfl,rfl⟩
    go_enter Tryz.func159,Tryz.ntmps159
    go_wp2_with (first|(go_at_call 150;(with_reducible refine (eJ _ _ _).mono ?_);rintro e w' ⟨rfl,rfl⟩)|(go_at_call 121;(with_reducible refine (ij _ _ _).mono ?_);rintro e w' ⟨rfl,rfl⟩)|(go_at_call 131;(with_reducible refine (jh _ _ _).mono ?_);rintro e w' ⟨rfl,rfl⟩)|(go_at_call 149;(with_reducible refine (of_c _ _ _).mono ?_);rintro e w' ⟨rfl,rfl⟩))
    all_goals
     go_ret2
     obtain ⟨k1,k2,k3⟩:=nk K.out
     obtain ⟨m1,m2⟩:=K2.out
     rw [k1,k2,k3,m1,m2,vZ]
     exact ⟨rfl,rfl⟩
def rngB (re im:Nat):Bool:=inF re 4294967295 && inF im 65536
def refS (re im:Nat):Int:=if rngB re im then cutF re else 0
def refN (re im:Nat):Int:=if rngB re im then cutF im else 0
attribute [irreducible] fI ofS ofN ofE ofOk aV bg gf bS hasB hasE eh ee dW jI jq jH dj refS refN rngB dP isF cutF
theorem mL {s n:Int} (hs:0≤s∧s≤4294967295) (hn:0≤n∧n≤65536):bS (fI s) (fI n)=true∧aV (fI s) (fI n)=s∧bg (fI s) (fI n)=n:=by
 have h1:isF (fI s) 4294967295=true:=by rw [mG hs.1,rN _ _ (by omega) (by decide)];simp;omega
 have h2:isF (fI n) 65536=true:=by rw [mG hn.1,rN _ _ (by omega) (by decide)];simp;omega
 have h0:bS (fI s) (fI n)=true:=by unfold bS;rw [h1,h2];rfl
 refine ⟨h0,?_,?_⟩
 ·unfold aV;rw [if_pos h0,mG hs.1,lL _ (by omega)];omega
 ·unfold bg;rw [if_pos h0,mG hn.1,lL _ (by omega)];omega
theorem vM (s n:Int) (hs:0≤s∧s≤4294967295) (hn:0≤n∧n≤65536) (w:World):Calls Tryz.prog 143 #[.int .i64 s,.int .i64 n] w fun e w' => e = .returned (.tuple #[.complex .f64 (fI s) (fI n),.int .i64 0])∧w=w' := by
 have h:=u0 s n w
 obtain ⟨k1,k2,k3⟩:=of_t (vL (s:=s) (n:=n) ⟨hs.1,hs.2,hn.1,hn.2⟩)
 rw [k1,k2,k3] at h
 exact h
theorem qU (s n:Int) (hs:0≤s∧s≤4294967295) (hn:0≤n∧n≤65536) (w:World):Calls Tryz.prog 150 #[.complex .f64 (fI s) (fI n)] w fun e w' => e = .returned (.tuple #[.int .i64 s,.int .i64 n,.int .i64 0])∧w=w' := by
 have h:=eJ (fI s) (fI n) w
 obtain ⟨k1,k2,k3⟩:=mL hs hn
 rw [jn k1,k2,k3] at h
 exact h
theorem s8 (s n t m:Int) (hs:0≤s∧s≤4294967295) (hn:0≤n∧n≤65536) (ht:0≤t∧t≤4294967295) (hm:0≤m∧m≤65536) (w:World) :
 Calls Tryz.prog 159 #[.complex .f64 (fI s) (fI n),.complex .f64 (fI t) (fI m)] w fun e w' => e = .returned (.tuple #[.complex .f64 (fI (ee s n t m)) (fI (dW s n t m)),.int .i64 0])∧w=w' := by
 have h:=qS (fI s) (fI n) (fI t) (fI m) w
 obtain ⟨k1,k2,k3⟩:=mL hs hn
 obtain ⟨l1,l2,l3⟩:=mL ht hm
 have hk:dj (fI s) (fI n) (fI t) (fI m)=true:=by unfold dj;rw [k1,l1];rfl
 obtain ⟨e1,e2,e3⟩:=nk hk
 rw [e1,e2,e3,k2,k3,l2,l3] at h
 exact h
theorem uT (s n v:Int) (b:Bool) (hs:0≤s∧s≤4294967295) (hn:0≤n∧n≤65536) (hv:0≤v∧v≤4294967295) (hb:decide (woff v s < n)=b) (w:World) :
 Calls Tryz.prog 144 #[.complex .f64 (fI s) (fI n),.int .i64 v] w fun e w' => e = .returned (.tuple #[.bool b,.int .i64 0])∧w=w' := by
 have h:=rO (fI s) (fI n) v w
 obtain ⟨k1,k2,k3⟩:=mL hs hn
 have hk:eh (fI s) (fI n) v=true:=by unfold eh;rw [k1,fZ (by omega)];rfl
 obtain ⟨e1,e2⟩:=vg hk
 rw [e1,e2,k2,k3,hb] at h
 exact h
theorem RL.vals {m:Nm} {h:Hp} {w:World} : ∀ {us:List Value} {vs:Array Value}, RL m h w (us.map AV.val) vs→vs=us.toArray
 | us,⟨vs⟩,hl=>by
   congr 1
   refine List.ext_getElem? fun i=>?_
   have h1:=hl.1
   simp at h1
   rcases Nat.lt_or_ge i us.length with h2|h2
   ·have h3:i < vs.length:=by omega
    have:=hl.2 i (.val us[i]) vs[i] (by simp [h2]) (by simp [h3])
    rw [List.getElem?_eq_getElem h2,List.getElem?_eq_getElem h3,this.val_inv]
   ·rw [List.getElem?_eq_none h2,List.getElem?_eq_none (by omega)]
theorem ACallL.of_vals {P:Program} {f:FuncId} {us:List Value} {res:AV} {v:Value} (hc:cn P f) (H : ∀ w,Calls P f us.toArray w fun e w' => e = .returned v∧w=w') (hr : ∀ m h w,R m h w res v) :
 ACallL P f (us.map AV.val) [.perm] res [.perm] :=
 ⟨hc,fun m w vs rel hl=>by
  rw [hl.vals]
  exact (H w).mono fun e w' ⟨h1,h2⟩=>by subst h2;exact ⟨v,m,h1,rel,Ev.refl _ _ _,hr _ _ _⟩⟩
theorem R.tup2 {m:Nm} {h:Hp} {w:World} (a b:Value):R m h w (.tup [.val a,.val b]) (.tuple #[a,b]) :=
 .tup _ _ rfl fun i c v h1 h2=>by rcases i with _|_|i<;>simp at h1 h2<;>(subst h1 h2;exact .val _)
theorem R.tup3 {m:Nm} {h:Hp} {w:World} (a b c:Value):R m h w (.tup [.val a,.val b,.val c]) (.tuple #[a,b,c]) :=
 .tup _ _ rfl fun i c v h1 h2=>by rcases i with _|_|_|i<;>simp at h1 h2<;>(subst h1 h2;exact .val _)
theorem an (s n:Int):ACallL Tryz.prog 131 [.val (.int .i64 s),.val (.int .i64 n)] [.perm] (.val (.int .i64 (wadd s n))) [.perm] :=
 ACallL.of_vals (us:=[.int .i64 s,.int .i64 n]) (fun a w=>Tryz.call131 a w) (jh s n) fun _ _ _ => .val _
theorem bO (s n:Int):ACallL Tryz.prog 63 [.val (.int .i64 s),.val (.int .i64 n)] [.perm] (.val (.int .i64 (wadd s n))) [.perm] :=
 ACallL.of_vals (us:=[.int .i64 s,.int .i64 n]) (fun a w=>Tryz.call63 a w) (tO s n) fun _ _ _ => .val _
theorem dg (s n:Int):ACallL Tryz.prog 121 [.val (.int .i64 s),.val (.int .i64 n)] [.perm] (.val (.int .i64 (ah s n))) [.perm] :=
 ACallL.of_vals (us:=[.int .i64 s,.int .i64 n]) (fun a w=>Tryz.call121 a w) (ij s n) fun _ _ _ => .val _
theorem ic (s n:Int):ACallL Tryz.prog 88 [.val (.int .i64 s),.val (.int .i64 n)] [.perm] (.val (.int .i64 (woff s n))) [.perm] :=
 ACallL.of_vals (us:=[.int .i64 s,.int .i64 n]) (fun a w=>Tryz.call88 a w) (uG s n) fun _ _ _ => .val _
theorem eY (n:Int):ACallL Tryz.prog 84 [.val (.int .i64 n)] [.perm] (.val (.bool (am n 4294967295))) [.perm] :=
 ACallL.of_vals (us:=[.int .i64 n]) (fun a w=>Tryz.call84 a w) (eA n) fun _ _ _ => .val _
theorem dx (n:Int):ACallL Tryz.prog 33 [.val (.int .i64 n)] [.perm] (.val (.bool (am n 4294967295))) [.perm] :=
 ACallL.of_vals (us:=[.int .i64 n]) (fun a w=>Tryz.call33 a w) (sh n) fun _ _ _ => .val _
theorem iK (s n:Int) (hs:0≤s∧s≤4294967295) (hn:0≤n∧n≤65536):ACallL Tryz.prog 143 [.val (.int .i64 s),.val (.int .i64 n)] [.perm] (.tup [.val (.complex .f64 (fI s) (fI n)),.val (.int .i64 0)]) [.perm] :=
 ACallL.of_vals (us:=[.int .i64 s,.int .i64 n]) (fun a w=>Tryz.call143 a w) (vM s n hs hn) fun _ _ _=>R.tup2 _ _
theorem lZ (s n:Int) (hs:0≤s∧s≤4294967295) (hn:0≤n∧n≤65536):ACallL Tryz.prog 150 [.val (.complex .f64 (fI s) (fI n))] [.perm] (.tup [.val (.int .i64 s),.val (.int .i64 n),.val (.int .i64 0)]) [.perm] :=
 ACallL.of_vals (us:=[.complex .f64 (fI s) (fI n)]) (fun a w=>Tryz.call150 a w) (qU s n hs hn) fun _ _ _=>R.tup3 _ _ _
theorem nK (s n t m:Int) (hs:0≤s∧s≤4294967295) (hn:0≤n∧n≤65536) (ht:0≤t∧t≤4294967295) (hm:0≤m∧m≤65536) :
 ACallL Tryz.prog 159 [.val (.complex .f64 (fI s) (fI n)),.val (.complex .f64 (fI t) (fI m))] [.perm] (.tup [.val (.complex .f64 (fI (ee s n t m)) (fI (dW s n t m))),.val (.int .i64 0)]) [.perm] :=
 ACallL.of_vals (us:=[.complex .f64 (fI s) (fI n),.complex .f64 (fI t) (fI m)]) (fun a w=>Tryz.call159 a w) (s8 s n t m hs hn ht hm) fun _ _ _=>R.tup2 _ _
theorem remN {P:Program} {o:Oper} {sl:List AV} {h:List Own} {t u:TypeId} {x y:Operand} {k:IntKind} {a b:Int} (ho:o.op = .binOp .rem t x y u) (hx:ae sl x = .val (.int k a)) (hy:ae sl y = .val (.int k b)) (hb:b≠0):aop P o sl h=some ⟨.val (.int k (a.tmod b)),[],[]⟩:=by
 unfold aop
 rw [ho]
 simp only [hx,hy]
 simp [abin,hb]
def bc (i n:Int):Int:=(i % 18446744073709551616) % n
theorem eU (i n:Int) (h:0 < n):0≤bc i n∧bc i n < n:=⟨Int.emod_nonneg _ (by omega),Int.emod_lt_of_pos _ h⟩
theorem jr (i n:Int) (h0:0 < n) (h1:n≤4611686018427387904):ACallL Tryz.prog 22 [.val (.int .i64 i),.val (.int .i64 n)] [.perm] (.val (.int .i64 (bc i n))) [.perm]:=by
 have b:=eU i n h0
 have hz : ¬ n=0:=by omega
 have e2:IntKind.u64.wrap i=i % 18446744073709551616:=IntKind.wrap_u64 i
 have e3:IntKind.u64.wrap n=n:=IntKind.wrap_u64 n ▸ Int.emod_eq_of_lt (by omega) (by omega)
 have e1:((i % 18446744073709551616).tmod n)=(i % 18446744073709551616) % n:=Int.tmod_eq_emod_of_nonneg (Int.emod_nonneg _ (by decide))
 have e4:IntKind.i64.wrap (bc i n)=bc i n:=IntWalk.i64_in _ (by omega)
 refine ACallL.of_ev af Tryz.func22 rfl (fun a w=>Tryz.call22 a w) (congrArg Array.toList Tryz.results22) Tryz.ntmps22 fun B hB=>?_
 ((conv=>whnf);(repeat' ((first|refine gT ?_|((with_reducible refine ai ?_ ?_);focus (simp [e3,hz];done))|((with_reducible refine aj ?_ ?_);focus (simp [e3,hz];done))|(with_reducible refine ab (fun _=>?_) (fun _=>?_))|(refine ak (remN rfl rfl rfl (by rw [e3];exact hz)) ?_))<;>(conv=>whnf))))
 all_goals (refine qcv hB [] [(0,0)] [] ?_;repeat' (with_reducible first|exact trivial|refine And.intro ?_ ?_))
 all_goals (rw [e2,e3,e1];congr 2)
end Go.Proofs.YtceohcbokbalhaaGreat
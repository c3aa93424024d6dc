/- My own way of reckoning with data: a heap of names over the machine's heap, the laws of its change, what code comes to on it. No condition. -/
import Derived.Orders
import Derived.WalkKit
import Derived.WalkLawsBesides
import Derived.Below
import Derived.KernelRfl
namespace Go.Proofs.YtceohcbokbalhaaGreat
open Go.RowKit
set_option linter.unusedVariables false
set_option linter.unusedSimpArgs false
theorem plT {p:Prop} (h:p:=by first|((repeat (first|exact .val _|assumption|exact .any|(refine .agg _ ?_)|(refine .tup _ ?_)|(refine .list _ _ ?_)|(refine PlRows.mapF _ _ fun _ _=>?_)|(simp only [List.forall_mem_cons])|(refine ⟨?_,?_⟩)|(exact fun _ h=>absurd h List.not_mem_nil)));done)|fail):p:=h
theorem bA {p:Prop} (h:p:=by first|((first|(with_reducible refine iW ?_;kernel_rfl)|(with_reducible rfl)|rfl|assumption|(refine RowsRen.vals rfl ?_;(focus (simp [AV.isVal];done)))|(refine RowsRen.pl2 rfl ?_ ?_;(focus (first|rfl|assumption|(simp [List.take_of_length_le];done)|(simp;(rw [List.take_of_length_le (by first|omega|(simp;omega)|(simp;done)|fail)]);done)|(simp;exact List.take_of_length_le (by first|omega|(simp;omega)|(simp;done)|fail))));first|assumption|(focus (unfold PlRows;(repeat (first|exact .val _|assumption|exact .any|(refine .agg _ ?_)|(refine .tup _ ?_)|(refine .list _ _ ?_)|(refine PlRows.mapF _ _ fun _ _=>?_)|(simp only [List.forall_mem_cons])|(refine ⟨?_,?_⟩)|(exact fun _ h=>absurd h List.not_mem_nil)));done))|(focus (refine PlRows.mapF _ _ fun _ _=>?_;(repeat (first|exact .val _|assumption|exact .any|(refine .agg _ ?_)|(refine .tup _ ?_)|(refine .list _ _ ?_)|(refine PlRows.mapF _ _ fun _ _=>?_)|(simp only [List.forall_mem_cons])|(refine ⟨?_,?_⟩)|(exact fun _ h=>absurd h List.not_mem_nil)));done)))|((first|refine RowsRen.mapF _ _ _ fun _ _=>?_|refine RowsRen.one ?_);(repeat (refine Cells.cons ?_ ?_;focus (first|exact .val _|exact Ren.gg rfl _|exact Ren.ll rfl _|exact Ren.g2 rfl _|exact Ren.sl1 rfl|exact Ren.ptr1 rfl|exact Ren.pgl rfl rfl _|exact Ren.pll rfl rfl _|exact Ren.pg2 rfl rfl _|exact Ren.sll rfl rfl _|exact Ren.sgs rfl rfl _|exact Ren.sgs1 rfl rfl rfl rfl|exact Ren.oo rfl _ _|exact Ren.vnil _ _|exact Ren.vgnil _ _|assumption|fail)));exact Cells.nil)|(refine bx ?_ ?_ _<;>rfl)|fail);done)|fail):p:=h
theorem ao {p:Prop} (h:p:=by first|((first|(with_reducible rfl)|(refine RowsRen.mapF _ _ _ fun _ _=>?_;(repeat (refine Cells.cons ?_ ?_;focus (first|exact .val _|exact Ren.gg rfl _|exact Ren.ll rfl _|exact Ren.g2 rfl _|exact Ren.sl1 rfl|exact Ren.ptr1 rfl|exact Ren.pgl rfl rfl _|exact Ren.pll rfl rfl _|exact Ren.pg2 rfl rfl _|exact Ren.sll rfl rfl _|exact Ren.sgs rfl rfl _|exact Ren.sgs1 rfl rfl rfl rfl|exact Ren.oo rfl _ _|exact Ren.vnil _ _|exact Ren.vgnil _ _|assumption|fail)));exact Cells.nil)|(refine RowsRen.one ?_;(repeat (refine Cells.cons ?_ ?_;focus (first|exact .val _|exact Ren.gg rfl _|exact Ren.ll rfl _|exact Ren.g2 rfl _|exact Ren.sl1 rfl|exact Ren.ptr1 rfl|exact Ren.pgl rfl rfl _|exact Ren.pll rfl rfl _|exact Ren.pg2 rfl rfl _|exact Ren.sll rfl rfl _|exact Ren.sgs rfl rfl _|exact Ren.sgs1 rfl rfl rfl rfl|exact Ren.oo rfl _ _|exact Ren.vnil _ _|exact Ren.vgnil _ _|assumption|fail)));exact Cells.nil)|(refine bx ?_ ?_ _<;>rfl)|fail);done)|fail):p:=h
theorem andT {p:Prop} (h:p:=by first|((first|(with_reducible rfl)|(refine RowsRen.pl rfl rfl ?_;first|assumption|(focus (unfold PlRows;(repeat (first|exact .val _|assumption|exact .any|(refine .agg _ ?_)|(refine .tup _ ?_)|(refine .list _ _ ?_)|(refine PlRows.mapF _ _ fun _ _=>?_)|(simp only [List.forall_mem_cons])|(refine ⟨?_,?_⟩)|(exact fun _ h=>absurd h List.not_mem_nil)));done))|(focus (refine PlRows.mapF _ _ fun _ _=>?_;(repeat (first|exact .val _|assumption|exact .any|(refine .agg _ ?_)|(refine .tup _ ?_)|(refine .list _ _ ?_)|(refine PlRows.mapF _ _ fun _ _=>?_)|(simp only [List.forall_mem_cons])|(refine ⟨?_,?_⟩)|(exact fun _ h=>absurd h List.not_mem_nil)));done))));done)|fail):p:=h
inductive AV where
 | any
 | val (v:Value)
 | agg (cs:List AV)
 | tup (vs:List AV)
 | ptr (b i j:Nat)
 | sl (b i n:Nat)
 | list (r sz:Nat) (rows:List (List AV))
 | glist (r sz:Nat) (rows:List (List AV))
 | lptr (r:Nat) (row:List AV) (j:Nat)
 | clo (f:FuncId) (caps:List AV)
 deriving Inhabited
structure Blk where
 sz:Nat
 elem:TypeId
 rows:List (List AV)
inductive Own where
 | unused
 | dead
 | live (b:Blk)
 | perm
 | uniq
def Own.imm:Own→Prop
 | .perm=>True
 | .uniq=>True
 | _=>False
abbrev Hp:=Nat→Own
def Hp.upd (h:Hp) (id:Nat) (o:Own):Hp:=fun k=>if k=id then o else h k
def Hp.upds (h:Hp):List (Nat × Own)→Hp
 | []=>h
 | p::T=>Hp.upds (h.upd p.1 p.2) T
theorem Hp.upd_same (h:Hp) (id:Nat) (o:Own):h.upd id o id=o:=by simp [Hp.upd]
theorem Hp.upd_ne (h:Hp) {id k:Nat} (o:Own) (hk:k≠id):h.upd id o k=h k:=by simp [Hp.upd,hk]
structure Nm where
 pl:Nat→Nat × Nat
 set:Nat→Nat→Prop
inductive R (m:Nm) (h:Hp) (w:World):AV→Value→Prop
 | any (v:Value):R m h w .any v
 | val (v:Value):R m h w (.val v) v
 | agg (cs:List AV) (vs:Array Value) (hl:cs.length=vs.size) (hc : ∀ (i:Nat) (c:AV) (v:Value),cs[i]?=some c→vs[i]?=some v→R m h w c v):R m h w (.agg cs) (.agg vs)
 | tup (cs:List AV) (vs:Array Value) (hl:cs.length=vs.size) (hc : ∀ (i:Nat) (c:AV) (v:Value),cs[i]?=some c→vs[i]?=some v→R m h w c v):R m h w (.tup cs) (.tuple vs)
 | ptr (b i j:Nat) (k:Blk) (hb:h b = .live k):R m h w (.ptr b i j) (.pointer (some ⟨(m.pl b).1,(m.pl b).2 + i * k.sz + j,none⟩))
 | ptrD (b i j:Nat) (v:Value) (hb:h b = .dead) (h1:v.oneCell' = true):R m h w (.ptr b i j) v
 | sl (b i n:Nat) (k:Blk) (hb:h b = .live k) (off cap:Nat) (hn:i + n≤k.rows.length) (hc:n≤cap) (hm:cap≤maxLen) (ho:cap≠0→off=(m.pl b).2 + i * k.sz)
  (hz : ∀ (cur:Array Value) (e:TypeId) (f:Nat × Nat),w.heap[(m.pl b).1]?=some (.cells cur e f)→cap≠0→(m.pl b).2 + (i + cap) * k.sz≤cur.size):R m h w (.sl b i n) (.slice (some ⟨(m.pl b).1,off,none⟩) n cap)
 | slD (b i n:Nat) (v:Value) (hb:h b = .dead) (h1:v.oneCell' = true):R m h w (.sl b i n) v
 | nil (r sz:Nat):R m h w (.list r sz []) (.slice none 0 0)
 | emp (r sz cap:Nat) (a:Addr) (hr:(h r).imm) (hm:cap≤maxLen):R m h w (.list r sz []) (.slice (some a) 0 cap)
 | gnil (r sz:Nat):R m h w (.glist r sz []) (.slice none 0 0)
 | glist (r sz:Nat) (rows:List (List AV)) (hr:(h r).imm) (g off cap:Nat) (hg:m.set r g) (hc:rows.length≤cap) (hm:cap≤maxLen) (hw : ∀ row,row∈rows→row.length=sz)
  (hz:cap≠0 → ∀ (cur:Array Value) (e:TypeId) (f:Nat × Nat),w.heap[g]?=some (.cells cur e f)→off + cap * sz≤cur.size)
  (f:Nat→Nat→Value) (hf : ∀ (i j:Nat) (row:List AV) (c:AV),rows[i]?=some row→row[j]?=some c→w.cell? ⟨g,off + i * sz + j,none⟩=some (f i j)) (hR : ∀ (i j:Nat) (row:List AV) (c:AV),rows[i]?=some row→row[j]?=some c→R m h w c (f i j)) :
  R m h w (.glist r sz rows) (.slice (some ⟨g,off,none⟩) rows.length cap)
 | gemp (r sz:Nat) (a:Addr) (hr:(h r).imm):R m h w (.glist r sz []) (.slice (some a) 0 0)
 | glistD (r sz:Nat) (rows:List (List AV)) (v:Value) (hr:h r = .dead) (h1:v.oneCell' = true):R m h w (.glist r sz rows) v
 | list (r sz:Nat) (rows:List (List AV)) (hr:(h r).imm) (g off cap:Nat) (hg:m.set r g) (hc:rows.length≤cap) (hm:cap≤maxLen) (hw : ∀ row,row∈rows→row.length=sz)
  (f:Nat→Nat→Value) (hf : ∀ (i j:Nat) (row:List AV) (c:AV),rows[i]?=some row→row[j]?=some c→w.cell? ⟨g,off + i * sz + j,none⟩=some (f i j)) (hR : ∀ (i j:Nat) (row:List AV) (c:AV),rows[i]?=some row→row[j]?=some c→R m h w c (f i j)) :
  R m h w (.list r sz rows) (.slice (some ⟨g,off,none⟩) rows.length cap)
 | listD (r sz:Nat) (rows:List (List AV)) (v:Value) (hr:h r = .dead) (h1:v.oneCell' = true):R m h w (.list r sz rows) v
 | lptr (r:Nat) (row:List AV) (j:Nat) (hr:(h r).imm) (g off:Nat) (hg:m.set r g) (f:Nat→Value) (hf : ∀ (j:Nat) (c:AV),row[j]?=some c→w.cell? ⟨g,off + j,none⟩=some (f j))
  (hR : ∀ (j:Nat) (c:AV),row[j]?=some c→R m h w c (f j)):R m h w (.lptr r row j) (.pointer (some ⟨g,off + j,none⟩))
 | lptrD (r:Nat) (row:List AV) (j:Nat) (v:Value) (hr:h r = .dead) (h1:v.oneCell' = true):R m h w (.lptr r row j) v
 | clo (f:FuncId) (caps:List AV) (vs:Array Value) (hl:caps.length=vs.size) (hc : ∀ (i:Nat) (c:AV) (v:Value),caps[i]?=some c→vs[i]?=some v→R m h w c v):R m h w (.clo f caps) (.func (.func f) #[] vs)
structure Rel (m:Nm) (h:Hp) (w:World):Prop where
 own : ∀ id k,h id = .live k → ∃ cur,w.heap[(m.pl id).1]?=some (.cells cur k.elem (0,0))∧(m.pl id).2 + k.rows.length * k.sz≤cur.size ∧
  (∀ row,row∈k.rows→row.length=k.sz) ∧ ∀ (i j:Nat) (row:List AV) (c:AV),k.rows[i]?=some row→row[j]?=some c → ∃ v,cur[(m.pl id).2 + i * k.sz + j]?=some v∧R m h w c v
 sep : ∀ id id' k k', h id = .live k→h id' = .live k' → (m.pl id).1=(m.pl id').1→id=id'
 sepR : ∀ id k r,h id = .live k→(h r).imm → ¬ m.set r (m.pl id).1
 sepU : ∀ r r' g,h r = .uniq→(h r').imm→r≠r' → m.set r g → ¬ m.set r' g
 bound : ∀ r g,(h r).imm→m.set r g→g < w.heap.size
 free : ∀ r g,h r = .uniq→m.set r g → ∃ cur e,w.heap[g]?=some (.cells cur e (0,0))
def Own.goes:Own→Own→Prop
 | .unused,_=>True
 | _,.dead=>True
 | .perm,.perm=>True
 | .uniq,.uniq=>True
 | .live k,.live k' => k'.sz=k.sz∧k.rows.length≤k'.rows.length
 | _,_=>False
structure Ev (m:Nm) (h:Hp) (w:World) (m' : Nm) (h' : Hp) (w' : World):Prop where
 pl : ∀ id,h id ≠ .unused→m'.pl id=m.pl id
 set : ∀ id,h id ≠ .unused→m'.set id=m.set id
 kind : ∀ id,(h id).goes (h' id)
 size:w.heap.size≤w'.heap.size
 cells : ∀ id k k', h id = .live k→h' id = .live k' → ∀ (cur:Array Value) (e:TypeId) (f:Nat × Nat),w'.heap[(m.pl id).1]?=some (.cells cur e f) → ∃ cur0 e0 f0,w.heap[(m.pl id).1]?=some (.cells cur0 e0 f0)∧cur0.size=cur.size
 frame : ∀ g,g < w.heap.size→(∀ id k,h id = .live k→(m.pl id).1≠g)→(∀ r,h r = .uniq→m.set r g→h' r = .uniq)→w'.heap[g]?=w.heap[g]?
 new : ∀ id k,h id = .unused→h' id = .live k→w.heap.size≤(m'.pl id).1∨(∃ i k,h i = .live k∧(m.pl i).1=(m'.pl id).1) ∨ ∃ r,h r = .uniq∧h' r = .dead∧m.set r (m'.pl id).1
 newU : ∀ r g,h r = .unused→h' r = .uniq→m'.set r g→w.heap.size≤g∨(∃ i k,h i = .live k∧(m.pl i).1=g) ∨ ∃ r,h r = .uniq∧h' r = .dead∧m.set r g
 os:w'.os=w.os
 tape:w'.tape=w.tape
 output:w'.output=w.output
theorem Own.goes_refl (o:Own):o.goes o:=by cases o<;>simp [Own.goes]
theorem Own.goes_imm {o o' : Own} (h:o.goes o') (hi:o'.imm) (hn:o ≠ .unused):o' = o:=by
 cases o<;>cases o' <;> simp_all [Own.goes,Own.imm]
theorem Own.goes_trans {a b c:Own} (h1:a.goes b) (h2:b.goes c) (hb:a ≠ .unused→b ≠ .unused):a.goes c:=by
 cases a<;>cases b<;>cases c<;>simp_all [Own.goes]
 omega
theorem Own.goes_used {a b:Own} (h1:a.goes b) (ha:a ≠ .unused):b ≠ .unused:=by
 cases a<;>cases b<;>simp_all [Own.goes]
theorem Ev.imm {m m' : Nm} {h h' : Hp} {w w' : World} (rel:Rel m h w) (ev:Ev m h w m' h' w') {r g:Nat} (hr:(h r).imm) (hr' : (h' r).imm) (hg:m.set r g):w'.heap[g]?=w.heap[g]?:=by
 have hn:h r ≠ .unused:=by intro e;rw [e] at hr;exact hr
 have he:h' r=h r:=Own.goes_imm (ev.kind r) hr' hn
 refine ev.frame g (rel.bound r g hr hg) (fun id k hk e=>rel.sepR id k r hk hr (e ▸ hg)) (fun r' hr2 hg' => ?_)
 by_cases e:r' = r
 ·subst e;rw [he];exact hr2
 ·exact absurd hg (rel.sepU r' r g hr2 hr e hg')
theorem da {w w' : World} {g o:Nat} (e:w'.heap[g]?=w.heap[g]?):w'.cell? ⟨g,o,none⟩=w.cell? ⟨g,o,none⟩:=by simp [World.cell?,e]
theorem R.mono {m m' : Nm} {h h' : Hp} {w w' : World} (rel:Rel m h w) (ev:Ev m h w m' h' w') {av:AV} {v:Value} (hR:R m h w av v):R m' h' w' av v:=by
 induction hR with
 | any v=>exact .any v
 | val v=>exact .val v
 | agg cs vs hl hc ih=>exact .agg cs vs hl ih
 | tup cs vs hl hc ih=>exact .tup cs vs hl ih
 | ptr b i j k hb =>
   have hu:h b ≠ .unused:=by rw [hb];simp
   have hk:=ev.kind b
   rw [hb] at hk
   cases hb' : h' b with
   | dead=>exact .ptrD b i j _ hb' rfl
   | live k' =>
     rw [hb'] at hk
     have:=R.ptr (m:=m') (h:=h') (w:=w') b i j k' hb'
     rw [ev.pl b hu,hk.1] at this
     exact this
   | unused=>rw [hb'] at hk;exact hk.elim
   | perm=>rw [hb'] at hk;exact hk.elim
   | uniq=>rw [hb'] at hk;exact hk.elim
 | ptrD b i j v hb h1 =>
   have hk:=ev.kind b
   rw [hb] at hk
   cases hb' : h' b<;>rw [hb'] at hk<;>first|exact .ptrD b i j _ hb' h1|exact hk.elim
 | sl b i n k hb off cap hn hc hm ho hz =>
   have hu:h b ≠ .unused:=by rw [hb];simp
   have hk:=ev.kind b
   rw [hb] at hk
   cases hb' : h' b with
   | dead=>exact .slD b i n _ hb' rfl
   | live k' =>
     rw [hb'] at hk
     have:=R.sl (m:=m') (h:=h') (w:=w') b i n k' hb' off cap (by have:=hk.2;omega) hc hm (by rw [ev.pl b hu,hk.1];exact ho)
      (by
       intro cur e f hcur hcap
       rw [ev.pl b hu] at hcur ⊢
       obtain ⟨cur0,e0,f0,h0,hs⟩:=ev.cells b k k' hb hb' cur e f hcur
       have:=hz cur0 e0 f0 h0 hcap
       rw [hk.1, ← hs];exact this)
     rw [ev.pl b hu] at this
     exact this
   | unused=>rw [hb'] at hk;exact hk.elim
   | perm=>rw [hb'] at hk;exact hk.elim
   | uniq=>rw [hb'] at hk;exact hk.elim
 | slD b i n v hb h1 =>
   have hk:=ev.kind b
   rw [hb] at hk
   cases hb' : h' b<;>rw [hb'] at hk<;>first|exact .slD b i n _ hb' h1|exact hk.elim
 | nil r sz=>exact .nil r sz
 | emp r sz cap a hr hm =>
   have hu:h r ≠ .unused:=by intro e;rw [e] at hr;exact hr
   have hk:=ev.kind r
   by_cases hr' : (h' r).imm
   ·exact .emp r sz cap a hr' hm
   ·refine .listD r sz [] _ ?_ rfl
    cases hh:h r<;>cases hh' : h' r<;>rw [hh,hh'] at hk<;>simp_all [Own.goes,Own.imm]
 | gnil r sz=>exact .gnil r sz
 | gemp r sz a hr =>
   have hu:h r ≠ .unused:=by intro e;rw [e] at hr;exact hr
   have hk:=ev.kind r
   by_cases hr' : (h' r).imm
   ·exact .gemp r sz a hr'
   ·refine .glistD r sz [] _ ?_ rfl
    cases hh:h r<;>cases hh' : h' r<;>rw [hh,hh'] at hk<;>simp_all [Own.goes,Own.imm]
 | glist r sz rows hr g off cap hg hc hm hw hz f hf hRR ih =>
   have hu:h r ≠ .unused:=by intro e;rw [e] at hr;exact hr
   have hk:=ev.kind r
   by_cases hr' : (h' r).imm
   ·have e:=ev.imm rel hr hr' hg
    exact .glist r sz rows hr' g off cap (by rw [ev.set r hu];exact hg) hc hm hw (fun c0 cur e2 f2 hc2=>hz c0 cur e2 f2 (by rw [← e];exact hc2)) f (fun i j row c h1 h2=>(da e).trans (hf i j row c h1 h2)) ih
   ·refine .glistD r sz rows _ ?_ rfl
    cases hh:h r<;>cases hh' : h' r<;>rw [hh,hh'] at hk<;>simp_all [Own.goes,Own.imm]
 | glistD r sz rows v hr h1 =>
   have hk:=ev.kind r
   rw [hr] at hk
   cases hb' : h' r<;>rw [hb'] at hk<;>first|exact .glistD r sz rows _ hb' h1|exact hk.elim
 | list r sz rows hr g off cap hg hc hm hw f hf hRR ih =>
   have hu:h r ≠ .unused:=by intro e;rw [e] at hr;exact hr
   have hk:=ev.kind r
   by_cases hr' : (h' r).imm
   ·have e:=ev.imm rel hr hr' hg
    exact .list r sz rows hr' g off cap (by rw [ev.set r hu];exact hg) hc hm hw f (fun i j row c h1 h2=>(da e).trans (hf i j row c h1 h2)) ih
   ·refine .listD r sz rows _ ?_ rfl
    cases hh:h r<;>cases hh' : h' r<;>rw [hh,hh'] at hk<;>simp_all [Own.goes,Own.imm]
 | listD r sz rows v hr h1 =>
   have hk:=ev.kind r
   rw [hr] at hk
   cases hb' : h' r<;>rw [hb'] at hk<;>first|exact .listD r sz rows _ hb' h1|exact hk.elim
 | lptr r row j hr g off hg f hf hRR ih =>
   have hu:h r ≠ .unused:=by intro e;rw [e] at hr;exact hr
   have hk:=ev.kind r
   by_cases hr' : (h' r).imm
   ·have e:=ev.imm rel hr hr' hg
    exact .lptr r row j hr' g off (by rw [ev.set r hu];exact hg) f (fun j c h1=>(da e).trans (hf j c h1)) ih
   ·refine .lptrD r row j _ ?_ rfl
    cases hh:h r<;>cases hh' : h' r<;>rw [hh,hh'] at hk<;>simp_all [Own.goes,Own.imm]
 | lptrD r row j v hr h1 =>
   have hk:=ev.kind r
   rw [hr] at hk
   cases hb' : h' r<;>rw [hb'] at hk<;>first|exact .lptrD r row j _ hb' h1|exact hk.elim
 | clo f caps vs hl hc ih=>exact .clo f caps vs hl ih
theorem Ev.refl (m:Nm) (h:Hp) (w:World):Ev m h w m h w where
 pl:=fun _ _=>rfl
 set:=fun _ _=>rfl
 kind:=fun _=>Own.goes_refl _
 size:=Nat.le_refl _
 cells:=fun id k k' h1 h2 cur e f hc=>⟨cur,e,f,hc,rfl⟩
 frame:=fun _ _ _ _=>rfl
 new:=fun id k h1 h2=>by rw [h1] at h2;cases h2
 newU:=fun id k h1 h2=>by rw [h1] at h2;cases h2
 os:=rfl
 tape:=rfl
 output:=rfl
theorem Ev.trans {m1 m2 m3:Nm} {h1 h2 h3:Hp} {w1 w2 w3:World} (rel:Rel m1 h1 w1) (a:Ev m1 h1 w1 m2 h2 w2) (b:Ev m2 h2 w2 m3 h3 w3):Ev m1 h1 w1 m3 h3 w3:=by
 have used : ∀ id,h1 id ≠ .unused→h2 id ≠ .unused:=fun id h=>Own.goes_used (a.kind id) h
 have live2 : ∀ id k,h1 id ≠ .unused→h2 id = .live k → ∃ k0,h1 id = .live k0:=fun id k hu hk=>by
  have:=a.kind id
  rw [hk] at this
  cases hh:h1 id<;>rw [hh] at this<;>first|exact ⟨_,rfl⟩|exact absurd hh hu|exact this.elim
 have dead3 : ∀ r,h2 r = .dead→h3 r = .dead:=fun r h=>by
  have:=b.kind r
  rw [h] at this
  cases hh:h3 r<;>rw [hh] at this<;>first|rfl|exact this.elim
 have uniq1 : ∀ r,h1 r ≠ .unused→h2 r = .uniq→h1 r = .uniq:=fun r hu hk=>by
  have:=a.kind r
  rw [hk] at this
  cases hh:h1 r<;>rw [hh] at this<;>first|rfl|exact absurd hh hu|exact this.elim
 have uniq2 : ∀ r,h1 r = .uniq→h3 r = .uniq→h2 r = .uniq:=fun r hu h3u=>by
  have k1:=a.kind r
  have k2:=b.kind r
  rw [hu] at k1
  rw [h3u] at k2
  cases hh:h2 r<;>rw [hh] at k1 k2<;>first|rfl|exact k1.elim|exact k2.elim
 -- a block that is nobody's of the first,and in no region that was struck,is nobody's of the second
 have far : ∀ g,g < w1.heap.size→(∀ id k,h1 id = .live k→(m1.pl id).1≠g)→(∀ r,h1 r = .uniq→m1.set r g→h3 r = .uniq) →
  (∀ id k,h2 id = .live k→(m2.pl id).1≠g)∧(∀ r,h2 r = .uniq→m2.set r g→h3 r = .uniq):=fun g hg ho hu=>by
  refine ⟨fun id k hk e=>?_,fun r hr hs=>?_⟩
  ·by_cases h0:h1 id = .unused
   ·rcases a.new id k h0 hk with h|⟨i,k,hi,e2⟩|⟨r,hr,hd,hs⟩
    ·omega
    ·exact ho i k hi (e2.trans e)
    ·rw [e] at hs
     have:=hu r hr hs
     rw [dead3 r hd] at this;cases this
   ·obtain ⟨k0,hk0⟩:=live2 id k h0 hk
    rw [a.pl id h0] at e
    exact ho id k0 hk0 e
  ·by_cases h0:h1 r = .unused
   ·rcases a.newU r g h0 hr hs with h|⟨i,k,hi,e2⟩|⟨r2,hr2,hd,hs2⟩
    ·omega
    ·exact absurd e2 (ho i k hi)
    ·have:=hu r2 hr2 hs2
     rw [dead3 r2 hd] at this;cases this
   ·rw [a.set r h0] at hs
    exact hu r (uniq1 r h0 hr) hs
 refine ⟨fun id h=>(b.pl id (used id h)).trans (a.pl id h),fun id h=>(b.set id (used id h)).trans (a.set id h),fun id=>Own.goes_trans (a.kind id) (b.kind id) (used id),Nat.le_trans a.size b.size,?_,?_,?_,?_,
  b.os.trans a.os,b.tape.trans a.tape,b.output.trans a.output⟩
 ·intro id k k3 hk hk3 cur e f hc
  have hu:h1 id ≠ .unused:=by rw [hk];simp
  have k1:=a.kind id
  have k2:=b.kind id
  rw [hk] at k1
  rw [hk3] at k2
  cases hh:h2 id with
  | live k' =>
    rw [← a.pl id hu] at hc
    obtain ⟨c0,e0,f0,hc0,hs0⟩:=b.cells id k' k3 hh hk3 cur e f hc
    rw [a.pl id hu] at hc0
    obtain ⟨c1,e1,f1,hc1,hs1⟩:=a.cells id k k' hk hh c0 e0 f0 hc0
    exact ⟨c1,e1,f1,hc1,hs1.trans hs0⟩
  | unused=>rw [hh] at k1;exact k1.elim
  | dead=>rw [hh] at k2;exact k2.elim
  | perm=>rw [hh] at k1;exact k1.elim
  | uniq=>rw [hh] at k1;exact k1.elim
 ·intro g hg ho hu
  obtain ⟨f1,f2⟩:=far g hg ho hu
  refine (b.frame g (Nat.lt_of_lt_of_le hg a.size) f1 f2).trans (a.frame g hg ho fun r hr hs=>?_)
  exact uniq2 r hr (hu r hr hs)
 ·intro id k h0 hk
  by_cases h20:h2 id = .unused
  ·rcases b.new id k h20 hk with h|⟨i,k2,hi,e⟩|⟨r,hr,hd,hs⟩
   ·exact .inl (Nat.le_trans a.size h)
   ·by_cases hi0:h1 i = .unused
    ·rw [← e]
     rcases a.new i k2 hi0 hi with h|h|⟨r,hr,hd,hs⟩
     ·exact .inl h
     ·exact .inr (.inl h)
     ·exact .inr (.inr ⟨r,hr,dead3 r hd,hs⟩)
    ·obtain ⟨k0,hk0⟩:=live2 i k2 hi0 hi
     exact .inr (.inl ⟨i,k0,hk0,by rw [← e,a.pl i hi0]⟩)
   ·by_cases hr0:h1 r = .unused
    ·rcases a.newU r _ hr0 hr hs with h|h|⟨r2,hr2,hd2,hs2⟩
     ·exact .inl h
     ·exact .inr (.inl h)
     ·exact .inr (.inr ⟨r2,hr2,dead3 r2 hd2,hs2⟩)
    ·rw [a.set r hr0] at hs
     exact .inr (.inr ⟨r,uniq1 r hr0 hr,hd,hs⟩)
  ·have k2:=b.kind id
   rw [hk] at k2
   cases hh:h2 id with
   | live k' =>
     rw [b.pl id h20]
     rcases a.new id k' h0 hh with h|h|⟨r,hr,hd,hs⟩
     ·exact .inl h
     ·exact .inr (.inl h)
     ·exact .inr (.inr ⟨r,hr,dead3 r hd,hs⟩)
   | unused=>exact absurd hh h20
   | dead=>rw [hh] at k2;exact k2.elim
   | perm=>rw [hh] at k2;exact k2.elim
   | uniq=>rw [hh] at k2;exact k2.elim
 ·intro r g h0 hk hs
  by_cases h20:h2 r = .unused
  ·rcases b.newU r g h20 hk hs with h|⟨i,k2,hi,e⟩|⟨r2,hr,hd,hs⟩
   ·exact .inl (Nat.le_trans a.size h)
   ·by_cases hi0:h1 i = .unused
    ·rw [← e]
     rcases a.new i k2 hi0 hi with h|h|⟨r,hr,hd,hs⟩
     ·exact .inl h
     ·exact .inr (.inl h)
     ·exact .inr (.inr ⟨r,hr,dead3 r hd,hs⟩)
    ·obtain ⟨k0,hk0⟩:=live2 i k2 hi0 hi
     exact .inr (.inl ⟨i,k0,hk0,by rw [← e,a.pl i hi0]⟩)
   ·by_cases hr0:h1 r2 = .unused
    ·rcases a.newU r2 _ hr0 hr hs with h|h|⟨r3,hr3,hd3,hs3⟩
     ·exact .inl h
     ·exact .inr (.inl h)
     ·exact .inr (.inr ⟨r3,hr3,dead3 r3 hd3,hs3⟩)
    ·rw [a.set r2 hr0] at hs
     exact .inr (.inr ⟨r2,uniq1 r2 hr0 hr,hd,hs⟩)
  ·have k2:=b.kind r
   rw [hk] at k2
   cases hh:h2 r with
   | uniq =>
     rw [b.set r h20] at hs
     rcases a.newU r g h0 hh hs with h|h|⟨r2,hr,hd,hs⟩
     ·exact .inl h
     ·exact .inr (.inl h)
     ·exact .inr (.inr ⟨r2,hr,dead3 r2 hd,hs⟩)
   | unused=>exact absurd hh h20
   | dead=>rw [hh] at k2;exact k2.elim
   | perm=>rw [hh] at k2;exact k2.elim
   | live k=>rw [hh] at k2;exact k2.elim
theorem R.g2l {m:Nm} {h:Hp} {w:World} {r sz:Nat} {rows:List (List AV)} {v:Value} (hR:R m h w (.glist r sz rows) v):R m h w (.list r sz rows) v:=by
 cases hR with
 | gnil=>exact .nil _ _
 | gemp _ _ a hr=>exact .emp _ _ 0 a hr (Nat.zero_le _)
 | glist _ _ _ hr g off cap hg hc hm hw hz f hf hRR=>exact .list _ _ _ hr g off cap hg hc hm hw f hf hRR
 | glistD _ _ _ _ hr h1=>exact .listD _ _ _ _ hr h1
def Nm.at (m:Nm) (id:Nat) (p:Nat × Nat):Nm := { pl:=fun x=>if x=id then p else m.pl x,set:=m.set }
def Nm.of (m:Nm) (id:Nat) (s:Nat→Prop):Nm := { pl:=m.pl,set:=fun x=>if x=id then s else m.set x }
theorem Nm.at_same (m:Nm) (id:Nat) (p:Nat × Nat):(m.at id p).pl id=p:=by simp [Nm.at]
theorem Nm.at_ne (m:Nm) {id x:Nat} (p:Nat × Nat) (h:x≠id):(m.at id p).pl x=m.pl x:=by simp [Nm.at,h]
theorem Nm.of_same (m:Nm) (id:Nat) (s:Nat→Prop):(m.of id s).set id=s:=by simp [Nm.of]
theorem Nm.of_ne (m:Nm) {id x:Nat} (s:Nat→Prop) (h:x≠id):(m.of id s).set x=m.set x:=by simp [Nm.of,h]
theorem Ev.world {m:Nm} {h:Hp} {w w' : World} (hh:w'.heap=w.heap) (o1:w'.os=w.os) (o2:w'.tape=w.tape) (o3:w'.output=w.output):Ev m h w m h w' where
 pl:=fun _ _=>rfl
 set:=fun _ _=>rfl
 kind:=fun _=>Own.goes_refl _
 size:=by rw [hh];exact Nat.le_refl _
 cells:=fun id k k' h1 h2 cur e f hc=>⟨cur,e,f,by rw [← hh];exact hc,rfl⟩
 frame:=fun _ _ _ _=>by rw [hh]
 new:=fun id k h1 h2=>by rw [h1] at h2;cases h2
 newU:=fun id k h1 h2=>by rw [h1] at h2;cases h2
 os:=o1
 tape:=o2
 output:=o3
theorem Rel.world {m:Nm} {h:Hp} {w w' : World} (rel:Rel m h w) (hh:w'.heap=w.heap) (o1:w'.os=w.os) (o2:w'.tape=w.tape) (o3:w'.output=w.output):Rel m h w' where
 own:=fun id k hk=>by
  obtain ⟨cur,h1,h2,h3,h4⟩:=rel.own id k hk
  exact ⟨cur,by rw [hh];exact h1,h2,h3,fun i j row c a b=>let ⟨v,x,y⟩:=h4 i j row c a b;⟨v,x,y.mono rel (Ev.world hh o1 o2 o3)⟩⟩
 sep:=rel.sep
 sepR:=rel.sepR
 sepU:=rel.sepU
 bound:=fun r g h1 h2=>by rw [hh];exact rel.bound r g h1 h2
 free:=fun r g h1 h2=>by rw [hh];exact rel.free r g h1 h2
theorem Rel.alloc {m:Nm} {h:Hp} {w w' : World} (rel:Rel m h w) {id:Nat} (hu:h id = .unused) (k:Blk) (cur:Array Value) (hh:w'.heap=w.heap.push (.cells cur k.elem (0,0)))
 (o1:w'.os=w.os) (o2:w'.tape=w.tape) (o3:w'.output=w.output) (hsz:k.rows.length * k.sz≤cur.size) (hrow : ∀ row,row∈k.rows→row.length=k.sz)
 (hc : ∀ (i j:Nat) (row:List AV) (c:AV),k.rows[i]?=some row→row[j]?=some c → ∃ v,cur[i * k.sz + j]?=some v∧R m h w c v) :
 Rel (m.at id (w.heap.size,0)) (h.upd id (.live k)) w' ∧ Ev m h w (m.at id (w.heap.size,0)) (h.upd id (.live k)) w' := by
 have hne : ∀ x,h x ≠ .unused→x≠id:=fun x hx e=>hx (e ▸ hu)
 have hup : ∀ x,x≠id→(h.upd id (.live k)) x=h x:=fun x hx=>Hp.upd_ne h _ hx
 have old : ∀ g,g < w.heap.size→w'.heap[g]?=w.heap[g]?:=fun g hg=>by rw [hh,Array.getElem?_push,if_neg (by omega)]
 have ltO : ∀ x k', h x = .live k' → (m.pl x).1 < w.heap.size:=fun x k' hx=>by
  obtain ⟨c,h1,_⟩:=rel.own x k' hx
  exact (Array.getElem?_eq_some_iff.1 h1).1
 have ev:Ev m h w (m.at id (w.heap.size,0)) (h.upd id (.live k)) w' := by
  refine ⟨fun x hx=>Nm.at_ne m _ (hne x hx),fun x hx=>rfl,fun x=>?_,by rw [hh];simp,?_,fun g hg _ _=>old g hg,?_,?_,o1,o2,o3⟩
  ·by_cases hx:x=id
   ·subst hx;rw [hu];trivial
   ·rw [hup x hx];exact Own.goes_refl _
  ·intro x k1 k2 h1 h2 c e f hcc
   exact ⟨c,e,f,by rw [← old _ (ltO x k1 h1)];exact hcc,rfl⟩
  ·intro x k1 h1 h2
   by_cases hx:x=id
   ·subst hx;left;rw [Nm.at_same];exact Nat.le_refl _
   ·rw [hup x hx,h1] at h2;cases h2
  ·intro r g h1 h2 hs
   by_cases hx:r=id
   ·subst hx;rw [Hp.upd_same] at h2;cases h2
   ·rw [hup r hx,h1] at h2;cases h2
 refine ⟨⟨?_,?_,?_,?_,?_,?_⟩,ev⟩
 ·intro x k1 h1
  by_cases hx:x=id
  ·subst hx
   rw [Hp.upd_same] at h1
   cases h1
   rw [Nm.at_same]
   refine ⟨cur,by rw [hh];simp,by simpa using hsz,hrow,fun i j row c a b=>?_⟩
   obtain ⟨v,hv,hR⟩:=hc i j row c a b
   exact ⟨v,by simpa using hv,hR.mono rel ev⟩
  ·rw [hup x hx] at h1
   rw [Nm.at_ne m _ hx]
   obtain ⟨c0,h2,h3,h4,h5⟩:=rel.own x k1 h1
   exact ⟨c0,by rw [old _ (ltO x k1 h1)];exact h2,h3,h4,fun i j row c a b=>let ⟨v,p,q⟩:=h5 i j row c a b;⟨v,p,q.mono rel ev⟩⟩
 ·intro x y k1 k2 h1 h2 e
  by_cases hx:x=id
  ·by_cases hy:y=id
   ·rw [hx,hy]
   ·rw [hup y hy] at h2
    rw [hx,Nm.at_same,Nm.at_ne m _ hy] at e
    have:=ltO y k2 h2
    simp at e;omega
  ·rw [hup x hx] at h1
   by_cases hy:y=id
   ·rw [hy,Nm.at_same,Nm.at_ne m _ hx] at e
    have:=ltO x k1 h1
    simp at e;omega
   ·rw [hup y hy] at h2
    rw [Nm.at_ne m _ hx,Nm.at_ne m _ hy] at e
    exact rel.sep x y k1 k2 h1 h2 e
 ·intro x k1 r h1 hr hs
  have hr0:r≠id:=by rintro rfl;rw [Hp.upd_same] at hr;exact hr
  rw [hup r hr0] at hr
  by_cases hx:x=id
  ·rw [hx,Nm.at_same] at hs
   have:=rel.bound r _ hr hs
   simp at this
  ·rw [hup x hx] at h1
   rw [Nm.at_ne m _ hx] at hs
   exact rel.sepR x k1 r h1 hr hs
 ·intro r r' g hr hr' hne2 hs
  have hr0:r≠id:=by rintro rfl;rw [Hp.upd_same] at hr;cases hr
  have hr1:r' ≠ id:=by rintro rfl;rw [Hp.upd_same] at hr'; exact hr'
  rw [hup r hr0] at hr
  rw [hup r' hr1] at hr'
  exact rel.sepU r r' g hr hr' hne2 hs
 ·intro r g hr hs
  have hr0:r≠id:=by rintro rfl;rw [Hp.upd_same] at hr;exact hr
  rw [hup r hr0] at hr
  have:=rel.bound r g hr hs
  rw [hh];simp;omega
 ·intro r g hr hs
  have hr0:r≠id:=by rintro rfl;rw [Hp.upd_same] at hr;cases hr
  rw [hup r hr0] at hr
  have:=rel.bound r g (by rw [hr];trivial) hs
  rw [old g this]
  exact rel.free r g hr hs
theorem Rel.write {m:Nm} {h:Hp} {w w' : World} (rel:Rel m h w) {b:Nat} {k:Blk} (hb:h b = .live k) (cur cur' : Array Value) (hcur:w.heap[(m.pl b).1]?=some (.cells cur k.elem (0,0)))
 (rows' : List (List AV)) (hh:w'.heap[(m.pl b).1]?=some (.cells cur' k.elem (0,0))) (hs:cur'.size=cur.size) (hsz:w'.heap.size=w.heap.size) (far : ∀ g,g≠(m.pl b).1→w'.heap[g]?=w.heap[g]?)
 (o1:w'.os=w.os) (o2:w'.tape=w.tape) (o3:w'.output=w.output) (hl:k.rows.length≤rows'.length) (hfit:(m.pl b).2 + rows'.length * k.sz≤cur.size) (hrow : ∀ row,row∈rows' → row.length=k.sz)
 (hc : ∀ (i j:Nat) (row:List AV) (c:AV),rows'[i]?=some row→row[j]?=some c → ∃ v,cur'[(m.pl b).2 + i * k.sz + j]?=some v∧R m h w c v) :
 Rel m (h.upd b (.live { k with rows:=rows' })) w' ∧ Ev m h w m (h.upd b (.live { k with rows:=rows' })) w' := by
 have hup : ∀ x,x≠b→(h.upd b (.live { k with rows:=rows' })) x=h x:=fun x hx=>Hp.upd_ne h _ hx
 have farO : ∀ x k', h x = .live k' → x≠b→w'.heap[(m.pl x).1]?=w.heap[(m.pl x).1]?:=fun x k' hx hne=>far _ fun e=>hne (rel.sep x b k' k hx hb e)
 have ev:Ev m h w m (h.upd b (.live { k with rows:=rows' })) w' := by
  refine ⟨fun x hx=>rfl,fun x hx=>rfl,fun x=>?_,by omega,?_,fun g hg ho _=>far g (fun e=>ho b k hb e.symm),?_,?_,o1,o2,o3⟩
  ·by_cases hx:x=b
   ·subst hx;rw [hb,Hp.upd_same];exact ⟨rfl,hl⟩
   ·rw [hup x hx];exact Own.goes_refl _
  ·intro x k1 k2 h1 h2 c e f hcc
   by_cases hx:x=b
   ·subst hx;rw [hh] at hcc;cases hcc;exact ⟨cur,_,_,hcur,hs.symm⟩
   ·exact ⟨c,e,f,by rw [← farO x k1 h1 hx];exact hcc,rfl⟩
  ·intro x k1 h1 h2
   by_cases hx:x=b
   ·subst hx;rw [hb] at h1;cases h1
   ·rw [hup x hx,h1] at h2;cases h2
  ·intro r g h1 h2 hss
   by_cases hx:r=b
   ·subst hx;rw [hb] at h1;cases h1
   ·rw [hup r hx,h1] at h2;cases h2
 have immE : ∀ r,((h.upd b (.live { k with rows:=rows' })) r).imm→(h r).imm∧r≠b:=fun r hr=>by
  have:r≠b:=by rintro rfl;rw [Hp.upd_same] at hr;exact hr
  exact ⟨by rw [← hup r this];exact hr,this⟩
 refine ⟨⟨?_,?_,?_,?_,?_,?_⟩,ev⟩
 ·intro x k1 h1
  by_cases hx:x=b
  ·subst hx
   rw [Hp.upd_same] at h1
   cases h1
   refine ⟨cur', hh,by simp only [hs];exact hfit,hrow,fun i j row c a b=>?_⟩
   obtain ⟨v,hv,hR⟩:=hc i j row c a b
   exact ⟨v,hv,hR.mono rel ev⟩
  ·rw [hup x hx] at h1
   obtain ⟨c0,h2,h3,h4,h5⟩:=rel.own x k1 h1
   exact ⟨c0,by rw [farO x k1 h1 hx];exact h2,h3,h4,fun i j row c a b=>let ⟨v,p,q⟩:=h5 i j row c a b;⟨v,p,q.mono rel ev⟩⟩
 ·intro x y k1 k2 h1 h2 e
  have lv : ∀ z kz,(h.upd b (.live { k with rows:=rows' })) z = .live kz → ∃ k0,h z = .live k0:=fun z kz hz=>by
   by_cases hzz:z=b
   ·exact ⟨k,hzz ▸ hb⟩
   ·rw [hup z hzz] at hz;exact ⟨_,hz⟩
  obtain ⟨a1,b1⟩:=lv x k1 h1
  obtain ⟨a2,b2⟩:=lv y k2 h2
  exact rel.sep x y a1 a2 b1 b2 e
 ·intro x k1 r h1 hr hss
  have hr1:=immE r hr
  by_cases hx:x=b
  ·subst hx;exact rel.sepR x k r hb hr1.1 hss
  ·rw [hup x hx] at h1;exact rel.sepR x k1 r h1 hr1.1 hss
 ·intro r r' g hr hr' hne2 hss
  have h1:=immE r (by rw [hr];trivial)
  have h2:=immE r' hr'
  rw [hup r h1.2] at hr
  exact rel.sepU r r' g hr h2.1 hne2 hss
 ·intro r g hr hss
  have h1:=immE r hr
  have:=rel.bound r g h1.1 hss
  omega
 ·intro r g hr hss
  have h1:=immE r (by rw [hr];trivial)
  rw [hup r h1.2] at hr
  rw [far g (fun e=>rel.sepR b k r hb h1.1 (e ▸ hss))]
  exact rel.free r g hr hss
theorem Rel.move {m:Nm} {h:Hp} {w w' : World} (rel:Rel m h w) {b id:Nat} {k:Blk} (hb:h b = .live k) (hu:h id = .unused) (off:Nat) (cur cur' : Array Value)
 (hcur:w.heap[(m.pl b).1]?=some (.cells cur k.elem (0,0))) (k' : Blk) (he:k'.elem=k.elem) (hh:w'.heap[(m.pl b).1]?=some (.cells cur' k.elem (0,0))) (hs:cur'.size=cur.size) (hsz:w'.heap.size=w.heap.size)
 (far : ∀ g,g≠(m.pl b).1→w'.heap[g]?=w.heap[g]?) (o1:w'.os=w.os) (o2:w'.tape=w.tape) (o3:w'.output=w.output) (hfit:off + k'.rows.length * k'.sz≤cur.size) (hrow : ∀ row,row∈k'.rows→row.length=k'.sz)
 (hc : ∀ (i j:Nat) (row:List AV) (c:AV),k'.rows[i]?=some row→row[j]?=some c → ∃ v,cur'[off + i * k'.sz + j]?=some v∧R m h w c v) :
 Rel (m.at id ((m.pl b).1,off)) ((h.upd b .dead).upd id (.live k')) w' ∧ Ev m h w (m.at id ((m.pl b).1,off)) ((h.upd b .dead).upd id (.live k')) w' := by
 have hbi:b≠id:=by rintro rfl;rw [hb] at hu;cases hu
 have hib:id≠b:=Ne.symm hbi
 have hup : ∀ x,x≠b→x≠id→((h.upd b .dead).upd id (.live k')) x=h x:=fun x hx hy=>by rw [Hp.upd_ne _ _ hy,Hp.upd_ne _ _ hx]
 have hupb:((h.upd b .dead).upd id (.live k')) b = .dead:=by rw [Hp.upd_ne _ _ hbi,Hp.upd_same]
 have farO : ∀ x kx,h x = .live kx→x≠b→w'.heap[(m.pl x).1]?=w.heap[(m.pl x).1]?:=fun x kx hx hne=>far _ fun e=>hne (rel.sep x b kx k hx hb e)
 have ev:Ev m h w (m.at id ((m.pl b).1,off)) ((h.upd b .dead).upd id (.live k')) w' := by
  refine ⟨fun x hx=>Nm.at_ne m _ (by rintro rfl;exact hx hu),fun x hx=>rfl,fun x=>?_,by omega,?_,fun g hg ho _=>far g (fun e=>ho b k hb e.symm),?_,?_,o1,o2,o3⟩
  ·by_cases hx:x=b
   ·subst hx;rw [hb,hupb];trivial
   ·by_cases hy:x=id
    ·subst hy;rw [hu];trivial
    ·rw [hup x hx hy];exact Own.goes_refl _
  ·intro x k1 k2 h1 h2 c e f hcc
   by_cases hx:x=b
   ·subst hx;rw [hupb] at h2;cases h2
   ·exact ⟨c,e,f,by rw [← farO x k1 h1 hx];exact hcc,rfl⟩
  ·intro x k1 h1 h2
   by_cases hx:x=b
   ·subst hx;rw [hb] at h1;cases h1
   ·by_cases hy:x=id
    ·subst hy;right;left;exact ⟨b,k,hb,by rw [Nm.at_same]⟩
    ·rw [hup x hx hy,h1] at h2;cases h2
  ·intro r g h1 h2 hss
   by_cases hx:r=b
   ·subst hx;rw [hb] at h1;cases h1
   ·by_cases hy:r=id
    ·subst hy;rw [Hp.upd_same] at h2;cases h2
    ·rw [hup r hx hy,h1] at h2;cases h2
 have immE : ∀ r,(((h.upd b .dead).upd id (.live k')) r).imm→(h r).imm∧r≠b∧r≠id:=fun r hr=>by
  have h1:r≠b:=by rintro rfl;rw [hupb] at hr;exact hr
  have h2:r≠id:=by rintro rfl;rw [Hp.upd_same] at hr;exact hr
  exact ⟨by rw [← hup r h1 h2];exact hr,h1,h2⟩
 refine ⟨⟨?_,?_,?_,?_,?_,?_⟩,ev⟩
 ·intro x k1 h1
  by_cases hx:x=b
  ·subst hx;rw [hupb] at h1;cases h1
  by_cases hy:x=id
  ·subst hy
   rw [Hp.upd_same] at h1
   cases h1
   rw [Nm.at_same]
   refine ⟨cur', by rw [he];exact hh,by simp only [hs];exact hfit,hrow,fun i j row c a b=>?_⟩
   obtain ⟨v,hv,hR⟩:=hc i j row c a b
   exact ⟨v,hv,hR.mono rel ev⟩
  ·rw [hup x hx hy] at h1
   rw [Nm.at_ne m _ hy]
   obtain ⟨c0,h2,h3,h4,h5⟩:=rel.own x k1 h1
   exact ⟨c0,by rw [farO x k1 h1 hx];exact h2,h3,h4,fun i j row c a b=>let ⟨v,p,q⟩:=h5 i j row c a b;⟨v,p,q.mono rel ev⟩⟩
 ·intro x y k1 k2 h1 h2 e
  have hxb:x≠b:=by rintro rfl;rw [hupb] at h1;cases h1
  have hyb:y≠b:=by rintro rfl;rw [hupb] at h2;cases h2
  by_cases hx:x=id
  ·by_cases hy:y=id
   ·rw [hx,hy]
   ·rw [hup y hyb hy] at h2
    rw [hx,Nm.at_same,Nm.at_ne m _ hy] at e
    exact absurd (rel.sep b y k k2 hb h2 e) (Ne.symm hyb)
  ·rw [hup x hxb hx] at h1
   by_cases hy:y=id
   ·rw [hy,Nm.at_same,Nm.at_ne m _ hx] at e
    exact absurd (rel.sep x b k1 k h1 hb e) hxb
   ·rw [hup y hyb hy] at h2
    rw [Nm.at_ne m _ hx,Nm.at_ne m _ hy] at e
    exact rel.sep x y k1 k2 h1 h2 e
 ·intro x k1 r h1 hr hss
  have hr1:=immE r hr
  have hxb:x≠b:=by rintro rfl;rw [hupb] at h1;cases h1
  by_cases hx:x=id
  ·rw [hx,Nm.at_same] at hss;exact rel.sepR b k r hb hr1.1 hss
  ·rw [hup x hxb hx] at h1;rw [Nm.at_ne m _ hx] at hss;exact rel.sepR x k1 r h1 hr1.1 hss
 ·intro r r' g hr hr' hne2 hss
  have h1:=immE r (by rw [hr];trivial)
  have h2:=immE r' hr'
  rw [hup r h1.2.1 h1.2.2] at hr
  exact rel.sepU r r' g hr h2.1 hne2 hss
 ·intro r g hr hss
  have h1:=immE r hr
  have:=rel.bound r g h1.1 hss
  omega
 ·intro r g hr hss
  have h1:=immE r (by rw [hr];trivial)
  rw [hup r h1.2.1 h1.2.2] at hr
  rw [far g (fun e=>rel.sepR b k r hb h1.1 (e ▸ hss))]
  exact rel.free r g hr hss
def AV.one:AV→Bool
 | .val v=>v.oneCell'
 | .ptr .. | .sl .. | .list .. | .glist .. | .lptr .. | .clo .. => true
 | _=>false
theorem R.one {m:Nm} {h:Hp} {w:World} {c:AV} {v:Value} (hR:R m h w c v) (h1:c.one=true):v.oneCell' = true:=by
 cases hR<;>first|rfl|assumption|(simp [AV.one] at h1;done)
def AV.cells:AV→List AV
 | .agg cs=>cs
 | c=>[c]
structure Res where
 av:AV
 rd:List (Nat × Own)
 T:List (Nat × Own)
@[go_sem] def ae (s:List AV):Operand→AV
  | .tmp t=>s.getD t (.val undef)
  | .const v => .val v
  | .global g => .val (.pointer (some ⟨g,0,none⟩))
  | .func f => .clo f []
def SlotsR (m:Nm) (h:Hp) (w:World) (s:List AV) (a:Act):Prop := ∀ t,R m h w (s.getD t (.val undef)) (a.tmps.getD t undef)
theorem SlotsR.eval {m:Nm} {h:Hp} {w:World} {s:List AV} {a:Act} (hs:SlotsR m h w s a) (x:Operand):R m h w (ae s x) (a.eval x):=by
 cases x with
 | tmp t=>exact hs t
 | const v=>exact .val v
 | global g=>exact .val _
 | func f=>exact .clo f [] #[] rfl (by simp)
def OpV (P:Program) (o:Oper) (s:List AV) (h:Hp) (r:Res):Prop :=
 ∀ (m:Nm) (w:World) (a:Act),Rel m h w→(∀ x∈o.op.operands,R m h w (ae s x) (a.eval x)) →
  ∃ nx v m' w', (execOp a.eval o).run P w = .ok nx w' ∧ (nx = .value v∨nx = .skip∧v=undef)∧Rel m' (h.upds r.T) w' ∧ Ev m h w m' (h.upds r.T) w' ∧ R m' (h.upds r.T) w' r.av v
def OpL (P:Program) (o:Oper) (s:List AV) (r:Res):Prop := ∀ h:Hp,(∀ p∈r.rd,h p.1=p.2)→OpV P o s h r
theorem OpL.pure {P:Program} {o:Oper} {s:List AV} {av:AV} (H : ∀ (m:Nm) (h:Hp) (w:World) (a:Act),Rel m h w→(∀ x∈o.op.operands,R m h w (ae s x) (a.eval x)) → ∃ v,(execOp a.eval o).run P w = .ok (.value v) w∧R m h w av v):OpL P o s ⟨av,[],[]⟩:=by
 intro h _ m w a rel hop
 obtain ⟨v,h1,h2⟩:=H m h w a rel hop
 exact ⟨_,v,m,w,h1,.inl rfl,rel,Ev.refl m h w,h2⟩
theorem R.val_inv {m:Nm} {h:Hp} {w:World} {u v:Value} (hR:R m h w (.val u) v):v=u:=by cases hR;rfl
@[go_sem] def abin:BinOp→Value→Value→Option Value
  | .add,.int k a,.int k' b=>if k=k' then some (.int k (k.wrap (a + b))) else none
  | .sub,.int k a,.int k' b=>if k=k' then some (.int k (k.wrap (a - b))) else none
  | .mul,.int k a,.int k' b=>if k=k' then some (.int k (k.wrap (a * b))) else none
  | .quo,.int k a,.int k' b=>if k=k' then (if b=0 then none else some (.int k (k.wrap (a.tdiv b)))) else none
  | .rem,.int k a,.int k' b=>if k=k' then (if b=0 then none else some (.int k (a.tmod b))) else none
  | .and,.int k a,.int k' b=>if k=k' then some (.int k (bits .and k a b)) else none
  | .or,.int k a,.int k' b=>if k=k' then some (.int k (bits .or k a b)) else none
  | .xor,.int k a,.int k' b=>if k=k' then some (.int k (bits .xor k a b)) else none
  | .shl,.int k a,.int _ b=>if b < 0 then none else some (.int k (k.wrap (a * 2 ^ (min b.toNat k.bits))))
  | .shr,.int k a,.int _ b=>if b < 0 then none else some (.int k (a.fdiv (2 ^ (min b.toNat k.bits))))
  | .eql,.int k a,.int k' b=>if k=k' then some (.bool (a == b)) else none
  | .neq,.int k a,.int k' b=>if k=k' then some (.bool (a != b)) else none
  | .lss,.int k a,.int k' b=>if k=k' then some (.bool (decide (a < b))) else none
  | .leq,.int k a,.int k' b=>if k=k' then some (.bool (decide (a≤b))) else none
  | .gtr,.int k a,.int k' b=>if k=k' then some (.bool (decide (b < a))) else none
  | .geq,.int k a,.int k' b=>if k=k' then some (.bool (decide (b≤a))) else none
  | _,_,_=>none
theorem oV (P:Program) (w:World) (op:BinOp) (t:TypeId) (x y:Operand) (k k' : IntKind) (a b:Int):(eqGuard op t x y (.int k a) (.int k' b)).run P w = .ok () w:=by
 cases op<;>simp [eqGuard]
theorem tL {P:Program} {w:World} {op:BinOp} {t:TypeId} {x y:Operand} {u v r:Value} (h:abin op u v=some r):(do eqGuard op t x y u v;binOp op t u v:Sem Value).run P w = .ok r w:=by
 cases u<;>cases v<;>(try (cases op<;>simp [abin] at h;done))
 rename_i k a k' b
 rw [Sem.run_bind,oV]
 cases op<;>simp only [abin] at h
 all_goals first
  | (split at h
     ·rename_i hk;subst hk;cases h;simp [binOp,Op.intArith,Op.intCmp,Op.intBits,bits])
  | (split at h
     ·rename_i hk;subst hk
      split at h
      ·cases h
      ·rename_i hb;cases h;simp [binOp,Op.intDiv,hb]
     ·cases h)
  | (split at h
     ·cases h
     ·rename_i hb;cases h;simp [binOp,Op.shift,hb])
  | cases h
 all_goals cases h
@[go_sem] def aun:UnOp→Value→Option Value
  | .not,.bool b=>some (.bool (!b))
  | .neg,.int k n=>some (.int k (k.wrap (0 - n)))
  | _,_=>none
theorem vT {P:Program} {w:World} {op:UnOp} {u r:Value} (h:aun op u=some r):(Op.unary op u).run P w = .ok r w:=by
 cases op<;>cases u<;>simp [aun] at h<;>subst h<;>simp [Op.unary,Op.intArith]
section
variable {P:Program}
def dH (P:Program) (t:TypeId):Option Bool:=(P.underlying t).map fun | .struct _=>true | .array _ _=>true|_=>false
def aY (P:Program) (t:TypeId):Option Nat:=(P.info? t).map (·.size)
def en (P:Program) (t:TypeId):Option Nat:=(P.info? t).map (·.bytes)
def dA (P:Program) (t:TypeId):Option (List Value):=(P.info? t).bind fun i=>i.zero.map (·.cells.toList)
def bw (P:Program) (t:TypeId):Option TypeId:=(P.underlying t).bind fun | .slice e=>some e|_=>none
def arrT (P:Program) (t:TypeId):Option (Nat × TypeId):=(P.underlying t).bind fun | .array n e=>some (n,e)|_=>none
def undT (P:Program) (t:TypeId):Bool:=(P.underlying t).isSome
def kQ (P:Program) (t:TypeId) (f:Nat):Option (Nat × TypeId × Nat) :=
 (P.underlying t).bind fun | .struct fs=>(fs[f]?).bind fun x=>(aY P x.type).map fun n=>(x.offset,x.type,n)|_=>none
def lz (P:Program) (t:TypeId):Option (List (Nat × Nat)) :=
 (P.underlying t).bind fun | .struct fs=>fs.toList.mapM fun x=>(aY P x.type).map fun n=>(x.offset,n)|_=>none
theorem fj {t:TypeId} {b:Bool} (h:dH P t=some b) (w:World):(isAgg t).run P w = .ok b w:=by
 simp only [dH,Option.map_eq_some_iff] at h
 obtain ⟨d,hd,hb⟩:=h
 simp only [isAgg,Sem.run_bind,run_underlying hd,Result.andThen_ok]
 cases d<;>simp_all
theorem aW {t:TypeId} {n:Nat} (h:aY P t=some n) (w:World):(sizeOf t).run P w = .ok n w:=by
 simp only [aY,Option.map_eq_some_iff] at h
 obtain ⟨i,hi,hb⟩:=h
 simp [sizeOf,typeInfo,hi,hb]
theorem ig {t:TypeId} {z:List Value} (h:dA P t=some z) (w:World) : ∃ v,(zeroValue t).run P w = .ok v w∧v.cells=z.toArray:=by
 simp only [dA,Option.bind_eq_some_iff,Option.map_eq_some_iff] at h
 obtain ⟨i,hi,v,hv,hb⟩:=h
 exact ⟨v,by simp [zeroValue,typeInfo,hi,hv],by rw [← hb]⟩
theorem bo (g o n:Nat):(⟨g,o,none⟩:Addr).add n=⟨g,o + n,none⟩:=by unfold Addr.add;split<;>simp_all
theorem fd {p:Nat→Value→Prop} : ∀ (n:Nat),(∀ i,i < n → ∃ v,p i v) → ∃ vs:List Value,vs.length=n ∧ ∀ i v,vs[i]?=some v→p i v:=by
 intro n
 induction n with
 | zero=>intro _;exact ⟨[],rfl,by simp⟩
 | succ n ih =>
   intro h
   obtain ⟨vs,hl,hv⟩:=ih fun i hi=>h i (by omega)
   obtain ⟨v,hp⟩:=h n (by omega)
   refine ⟨vs ++ [v],by simp [hl],fun i u hu=>?_⟩
   by_cases hi:i < n
   ·rw [List.getElem?_append_left (by omega)] at hu
    exact hv i u hu
   ·rw [List.getElem?_append_right (by omega)] at hu
    have:i=n:=by
     have:=(List.getElem?_eq_some_iff.1 hu).1
     simp at this;omega
    subst this
    simp [hl] at hu
    subst hu
    exact hp
theorem nG {m:Nm} {h:Hp} {w:World} {t:TypeId} {row:List AV} {g o j:Nat} {n:Nat} {b:Bool} (ha:dH P t=some b) (hs:aY P t=some n)
 (hc : ∀ (j:Nat) (c:AV),row[j]?=some c → ∃ v,w.cell? ⟨g,o + j,none⟩=some v∧R m h w c v) {av:AV}
 (hav:(if b then (if j + n≤row.length then some (AV.agg ((row.drop j).take n)) else none) else row[j]?)=some av) :
 ∃ v,(loadVar t ⟨g,o + j,none⟩).run P w = .ok v w∧R m h w av v:=by
 cases b with
 | true =>
   simp only [if_true] at hav
   split at hav
   ·rename_i hle
    cases hav
    obtain ⟨vs,hl,hv⟩:=fd (p:=fun i v => ∃ c,row[j + i]?=some c∧w.cell? ⟨g,o + (j + i),none⟩=some v∧R m h w c v) n (fun i hi=>by
     have hlt:j + i < row.length:=by omega
     obtain ⟨v,h1,h2⟩:=hc (j + i) row[j + i] (List.getElem?_eq_getElem hlt)
     exact ⟨v,_,List.getElem?_eq_getElem hlt,h1,h2⟩)
    have hld:=run_loadCells_list (P:=P) w ⟨g,o + j,none⟩ vs (fun i v hiv=>by
     obtain ⟨c,_,h2,_⟩:=hv i v hiv
     rw [bo,Nat.add_assoc];exact h2)
    rw [hl] at hld
    refine ⟨.agg vs.toArray,by simp [loadVar,fj ha,aW hs,hld],.agg _ _ (by simp [hl];omega) fun i c v h1 h2=>?_⟩
    have h2' : vs[i]?=some v:=by simpa using h2
    obtain ⟨c', e1,_,e3⟩:=hv i v h2'
    have h1' : row[j + i]?=some c:=by
     rw [List.getElem?_take] at h1
     split at h1
     ·simpa using h1
     ·cases h1
    rw [e1] at h1'
    cases h1'
    exact e3
   ·cases hav
 | false =>
   simp only [Bool.false_eq_true,if_false] at hav
   obtain ⟨v,h1,h2⟩:=hc j av hav
   exact ⟨v,by simp [loadVar,fj ha,run_load,h1],h2⟩
@[go_sem] def aload (P:Program) (t:TypeId) (x:AV) (look:Nat→Own):Option Res :=
  match dH P t,aY P t with
  | some b,some n =>
    match x with
    | .ptr p i j =>
      match look p with
      | .live k =>
        match k.rows[i]? with
        | some row=>((if b then (if j + n≤row.length then some (AV.agg ((row.drop j).take n)) else none) else row[j]?)).map fun av=>⟨av,[(p,.live k)],[]⟩
        | none=>none
      | _=>none
    | .lptr r row j =>
      match look r with
      | .perm=>((if b then (if j + n≤row.length then some (AV.agg ((row.drop j).take n)) else none) else row[j]?)).map fun av=>⟨av,[(r,.perm)],[]⟩
      | .uniq=>((if b then (if j + n≤row.length then some (AV.agg ((row.drop j).take n)) else none) else row[j]?)).map fun av=>⟨av,[(r,.uniq)],[]⟩
      | _=>none
    | _=>none
  | _,_=>none
theorem R.ptr_row {m:Nm} {h:Hp} {w:World} {p i j:Nat} {v:Value} {k:Blk} (rel:Rel m h w) (hb:h p = .live k) (hR:R m h w (.ptr p i j) v) :
 v = .pointer (some ⟨(m.pl p).1,(m.pl p).2 + i * k.sz + j,none⟩) ∧ ∀ row,k.rows[i]?=some row → ∀ (j:Nat) (c:AV),row[j]?=some c → ∃ v,w.cell? ⟨(m.pl p).1,(m.pl p).2 + i * k.sz + j,none⟩=some v∧R m h w c v:=by
 cases hR with
 | ptr _ _ _ k' hb' =>
   rw [hb] at hb'; cases hb'
   refine ⟨rfl,fun row hrow j' c hc=>?_⟩
   obtain ⟨cur,h1,_,_,h4⟩:=rel.own p k hb
   obtain ⟨v,h5,h6⟩:=h4 i j' row c hrow hc
   exact ⟨v,by simp [World.cell?,h1,h5],h6⟩
 | ptrD _ _ _ _ hd _=>rw [hb] at hd;cases hd
theorem R.lptr_row {m:Nm} {h:Hp} {w:World} {r j:Nat} {row:List AV} {v:Value} (hi:(h r).imm) (hR:R m h w (.lptr r row j) v) :
 ∃ g o,v = .pointer (some ⟨g,o + j,none⟩) ∧ ∀ (j:Nat) (c:AV),row[j]?=some c → ∃ v,w.cell? ⟨g,o + j,none⟩=some v∧R m h w c v:=by
 cases hR with
 | lptr _ _ _ hr g off hg f hf hRR=>exact ⟨g,off,rfl,fun j c hc=>⟨_,hf j c hc,hRR j c hc⟩⟩
 | lptrD _ _ _ _ hd _=>rw [hd] at hi;exact hi.elim
theorem ov {s:List AV} {o:Oper} {t:TypeId} {x:Operand} (ho:o.op = .load t x) {look:Nat→Own} {r:Res} (hr:aload P t (ae s x) look=some r):OpL P o s r:=by
 unfold aload at hr
 split at hr
 case h_2=>cases hr
 rename_i b n ha hs
 have key : ∀ (m:Nm) (h:Hp) (w:World) (a:Act),(a.eval x=a.eval x) → ∀ (g off j:Nat) (row:List AV) (av:AV),a.eval x = .pointer (some ⟨g,off + j,none⟩) →
  (∀ (j:Nat) (c:AV),row[j]?=some c → ∃ v,w.cell? ⟨g,off + j,none⟩=some v∧R m h w c v) →
  (if b then (if j + n≤row.length then some (AV.agg ((row.drop j).take n)) else none) else row[j]?)=some av → ∃ v,(execOp a.eval o).run P w = .ok (.value v) w∧R m h w av v:=by
  intro m h w a _ g off j row av he hc hav
  obtain ⟨v,h1,h2⟩:=nG ha hs hc hav
  exact ⟨v,by simp [execOp,ho,he,Instr.loadAt,Instr.sureAddr,h1],h2⟩
 split at hr
 ·rename_i p i j hx
  split at hr
  ·rename_i k hk
   split at hr
   ·rename_i row hrow
    simp only [Option.map_eq_some_iff] at hr
    obtain ⟨av,hav,rfl⟩:=hr
    intro h hrd m w a rel hop
    have hb:=hrd (p,.live k) (by simp)
    have hR:=hop x (by simp [ho,Op.operands])
    rw [hx] at hR
    obtain ⟨e,hc⟩:=R.ptr_row rel hb hR
    obtain ⟨v,h1,h2⟩:=key m h w a rfl _ _ j row av e (hc row hrow) hav
    exact ⟨_,v,m,w,h1,.inl rfl,rel,Ev.refl m h w,h2⟩
   ·cases hr
  ·cases hr
 ·rename_i r' row j hx
  have fin : ∀ kd:Own,kd.imm→(((if b then (if j + n≤row.length then some (AV.agg ((row.drop j).take n)) else none) else row[j]?)).map fun av=>(⟨av,[(r', kd)],[]⟩:Res))=some r→OpL P o s r:=by
   intro kd hkd hr
   simp only [Option.map_eq_some_iff] at hr
   obtain ⟨av,hav,rfl⟩:=hr
   intro h hrd m w a rel hop
   have hb:=hrd (r', kd) (by simp)
   have hR:=hop x (by simp [ho,Op.operands])
   rw [hx] at hR
   obtain ⟨g,off,e,hc⟩:=R.lptr_row (by rw [hb];exact hkd) hR
   obtain ⟨v,h1,h2⟩:=key m h w a rfl _ _ j row av e hc hav
   exact ⟨_,v,m,w,h1,.inl rfl,rel,Ev.refl m h w,h2⟩
  split at hr
  ·exact fin .perm trivial hr
  ·exact fin .uniq trivial hr
  ·cases hr
 ·cases hr
theorem R.cells {m:Nm} {h:Hp} {w:World} {c:AV} {v:Value} (hR:R m h w c v) (hone:c.cells.all AV.one=true):c.cells.length=v.cells.size ∧ ∀ (i:Nat) (x:AV) (u:Value),c.cells[i]?=some x→v.cells[i]?=some u→R m h w x u:=by
 cases c with
 | agg cs =>
   cases hR with
   | agg _ vs hl hc=>exact ⟨hl,hc⟩
 | _ =>
   have h1:=hR.one (by simpa [AV.cells] using hone)
   have hv:v.cells = #[v]:=by cases v<;>first|rfl|(simp [Value.oneCell'] at h1;done)
   refine ⟨by simp [AV.cells,hv],fun i x u hx hu=>?_⟩
   rw [hv] at hu
   simp only [AV.cells] at hx
   cases i with
   | zero=>simp at hx hu;subst hx hu;exact hR
   | succ i=>simp at hx
@[go_sem] def astore (P:Program) (t:TypeId) (x c:AV) (look:Nat→Own):Option Res :=
  match aY P t,x with
  | some n,.ptr p i j =>
    match look p with
    | .live k =>
      match k.rows[i]? with
      | some row =>
        if c.cells.length=n∧c.cells.all AV.one=true∧j + n≤row.length then
         some ⟨.val undef,[(p,.live k)],[(p,.live { k with rows:=k.rows.set i (row.take j ++ c.cells ++ row.drop (j + n)) })]⟩
        else none
      | none=>none
    | _=>none
  | _,_=>none
theorem bQ {α:Type} (row cs:List α) (j n i:Nat) (hl:cs.length=n) (hj:j + n≤row.length) :
 (row.take j ++ cs ++ row.drop (j + n))[i]?=if j≤i∧i < j + n then cs[i - j]? else row[i]?:=by
 subst hl
 have hjl:min j row.length=j:=by omega
 by_cases h1:i < j
 ·rw [if_neg (by omega),List.append_assoc,List.getElem?_append_left (by simp;omega),List.getElem?_take,if_pos h1]
 ·by_cases h2:i < j + cs.length
  ·rw [if_pos (by omega),List.append_assoc,List.getElem?_append_right (by simp;omega),List.length_take,hjl,List.getElem?_append_left (by omega)]
  ·rw [if_neg (by omega),List.append_assoc,List.getElem?_append_right (by simp;omega),List.length_take,hjl,List.getElem?_append_right (by omega),List.getElem?_drop]
   congr 1;omega
theorem cb (w:World) (g:Nat) (cs cur:Array Value) (t:TypeId) (hg:w.heap[g]?=some (.cells cur t (0,0))):(w.setRow g cs).heap[g]?=some (.cells cs t (0,0)):=setRow_heap w g cur cs t (0,0) hg
theorem sM {s:List AV} {o:Oper} {t:TypeId} {x y:Operand} (ho:o.op = .store t x y) {look:Nat→Own} {r:Res} (hr:astore P t (ae s x) (ae s y) look=some r):OpL P o s r:=by
 unfold astore at hr
 split at hr
 case h_2=>cases hr
 rename_i n p i j hs hx
 split at hr
 case h_2=>cases hr
 rename_i k hk
 split at hr
 case h_2=>cases hr
 rename_i row hrow
 split at hr
 case isFalse=>cases hr
 rename_i hcond
 obtain ⟨hlen,hall,hfit⟩:=hcond
 cases hr
 intro h hrd m w a rel hop
 have hb:h p = .live k:=hrd (p,.live k) (by simp)
 have hRx:=hop x (by simp [ho,Op.operands])
 have hRy:=hop y (by simp [ho,Op.operands])
 rw [hx] at hRx
 generalize ae s y=c at *
 obtain ⟨e, -⟩:=R.ptr_row rel hb hRx
 obtain ⟨cl,cR⟩:=hRy.cells hall
 obtain ⟨cur,hcur,hsz,hrows,hcells⟩:=rel.own p k hb
 have hrl:row.length=k.sz:=hrows row (List.mem_of_getElem? hrow)
 have hil:i < k.rows.length:=(List.getElem?_eq_some_iff.1 hrow).1
 have hik:i * k.sz + k.sz≤k.rows.length * k.sz:=by
  have:=Nat.mul_le_mul_right k.sz (show i + 1≤k.rows.length from hil)
  rw [Nat.add_mul,Nat.one_mul] at this;exact this
 have h1v : ∀ u∈(a.eval y).cells.toList,u.oneCell' = true:=fun u hu=>by
  obtain ⟨q,hq⟩:=List.getElem?_of_mem hu
  have hq' : (a.eval y).cells[q]?=some u:=by simpa using hq
  have hql:q < c.cells.length:=by
   have:=(Array.getElem?_eq_some_iff.1 hq').1
   omega
  have h3:=cR q c.cells[q] u (List.getElem?_eq_getElem hql) hq'
  refine h3.one ?_
  exact List.all_eq_true.1 hall _ (List.getElem_mem hql)
 have hst:=run_storeCells_at P (m.pl p).1 ((m.pl p).2 + i * k.sz + j) k.elem (a.eval y).cells.toList 0 cur w hcur (by simp [← cl,hlen];omega) h1v
 simp only [Nat.add_zero,Array.length_toList] at hst
 have hvs:(a.eval y).cells.size=n:=by rw [← cl];exact hlen
 rw [hvs] at hst
 have hrun:(execOp a.eval o).run P w = .ok .skip (w.setRow (m.pl p).1 (cur.toList.take ((m.pl p).2 + i * k.sz + j) ++ (a.eval y).cells.toList ++ cur.toList.drop ((m.pl p).2 + i * k.sz + j + n)).toArray):=by
  simp [execOp,ho,e,Instr.storeAt,Instr.sureAddr,storeVar,aW hs,hvs,hst]
 have hcs:(cur.toList.take ((m.pl p).2 + i * k.sz + j) ++ (a.eval y).cells.toList ++ cur.toList.drop ((m.pl p).2 + i * k.sz + j + n)).toArray.size=cur.size:=by
  simp [hvs];omega
 have W:=Rel.write (w' := w.setRow (m.pl p).1 (cur.toList.take ((m.pl p).2 + i * k.sz + j) ++ (a.eval y).cells.toList ++ cur.toList.drop ((m.pl p).2 + i * k.sz + j + n)).toArray) rel hb cur _ hcur
  (k.rows.set i (row.take j ++ c.cells ++ row.drop (j + n))) (cb w _ _ cur _ hcur) hcs (by simp) (fun g hg=>setRow_other w _ g _ hg) rfl rfl rfl (by simp) (by simpa using hsz)
  (fun row' hm=>by
   rcases List.mem_or_eq_of_mem_set hm with h|h
   ·exact hrows row' h
   ·rw [h];simp [hlen];omega)
  (fun i' j' row' c' h1 h2=>by
   by_cases hi:i' = i
   ·subst hi
    rw [List.getElem?_set_self hil] at h1
    cases h1
    rw [bQ row c.cells j n j' hlen hfit] at h2
    have hsp:=bQ cur.toList (a.eval y).cells.toList ((m.pl p).2 + i' * k.sz + j) n ((m.pl p).2 + i' * k.sz + j') (by simpa using hvs) (by simp;omega)
    simp only [List.getElem?_toArray]
    rw [hsp]
    split at h2
    ·rename_i hjj
     rw [if_pos (by omega),show (m.pl p).2 + i' * k.sz + j' - ((m.pl p).2 + i' * k.sz + j)=j' - j by omega]
     have hq:j' - j < (a.eval y).cells.size:=by omega
     refine ⟨(a.eval y).cells[j' - j],by simp [hq],?_⟩
     exact cR (j' - j) c' _ h2 (by simp [hq])
    ·rename_i hjj
     rw [if_neg (by omega)]
     simpa using hcells i' j' row c' hrow h2
   ·rw [List.getElem?_set_ne (Ne.symm hi)] at h1
    obtain ⟨v,h3,h4⟩:=hcells i' j' row' c' h1 h2
    refine ⟨v,?_,h4⟩
    have hrl' : row'.length=k.sz:=hrows row' (List.mem_of_getElem? h1)
    have hj' : j' < k.sz:=by rw [← hrl'];exact (List.getElem?_eq_some_iff.1 h2).1
    have hsp:=bQ cur.toList (a.eval y).cells.toList ((m.pl p).2 + i * k.sz + j) n ((m.pl p).2 + i' * k.sz + j') (by simpa using hvs) (by simp;omega)
    simp only [List.getElem?_toArray]
    rw [hsp,if_neg ?_]
    ·simpa using h3
    ·rcases Nat.lt_or_gt_of_ne hi with hlt|hlt
     ·have:=Nat.mul_le_mul_right k.sz (show i' + 1≤i from hlt)
      rw [Nat.add_mul,Nat.one_mul] at this
      omega
     ·have:=Nat.mul_le_mul_right k.sz (show i + 1≤i' from hlt)
      rw [Nat.add_mul,Nat.one_mul] at this
      omega)
 refine ⟨_,undef,m,_,hrun,.inr ⟨rfl,rfl⟩,?_,?_,.val _⟩
 ·exact W.1
 ·exact W.2
end
section
variable {P:Program}
theorem mh {s:List AV} {o:Oper} {x:Operand} (ho:o.op = .move x∨o.op = .assign x):OpL P o s ⟨ae s x,[],[]⟩ :=
 OpL.pure fun m h w a rel hop=>by
  rcases ho with ho|ho<;>exact ⟨a.eval x,by simp [execOp,ho],hop x (by simp [ho,Op.operands])⟩
@[go_sem] def apick (c a b:AV):Option AV:=match c with | .val (.bool t)=>some (if t then a else b)|_=>none
theorem uS {s:List AV} {o:Oper} {c x y:Operand} (ho:o.op = .pick c x y) {av:AV} (h:apick (ae s c) (ae s x) (ae s y)=some av):OpL P o s ⟨av,[],[]⟩ :=
 OpL.pure fun m hh w a rel hop=>by
  have hc:=hop c (by simp [ho,Op.operands])
  have hx:=hop x (by simp [ho,Op.operands])
  have hy:=hop y (by simp [ho,Op.operands])
  unfold apick at h
  split at h
  ·rename_i t ht
   rw [ht] at hc
   have e:=hc.val_inv
   cases h
   refine ⟨if t then a.eval x else a.eval y,by simp [execOp,ho,e,asBool],?_⟩
   cases t<;>simpa
  ·cases h
theorem wE {s:List AV} {o:Oper} {op:BinOp} {t u:TypeId} {x y:Operand} (ho:o.op = .binOp op t x y u) {v1 v2 r:Value} (h1:ae s x = .val v1) (h2:ae s y = .val v2) (h:abin op v1 v2=some r):OpL P o s ⟨.val r,[],[]⟩ :=
 OpL.pure fun m hh w a rel hop=>by
  have hx:=hop x (by simp [ho,Op.operands])
  have hy:=hop y (by simp [ho,Op.operands])
  rw [h1] at hx
  rw [h2] at hy
  have e1:=hx.val_inv
  have e2:=hy.val_inv
  have hr:=tL (P:=P) (w:=w) (t:=t) (x:=x) (y:=y) h
  refine ⟨r,?_,.val r⟩
  simp only [execOp,ho,e1,e2,Sem.run_bind (x:=(do eqGuard op t x y v1 v2;binOp op t v1 v2:Sem Value)),hr,Result.andThen_ok,Sem.run_pure]
theorem xE {s:List AV} {o:Oper} {op:UnOp} {t:TypeId} {x:Operand} (ho:o.op = .unOp op t x) {v1 r:Value} (h1:ae s x = .val v1) (h:aun op v1=some r):OpL P o s ⟨.val r,[],[]⟩ :=
 OpL.pure fun m hh w a rel hop=>by
  have hx:=hop x (by simp [ho,Op.operands])
  rw [h1] at hx
  refine ⟨r,?_,.val r⟩
  simp [execOp,ho,hx.val_inv,vT h]
def intT (P:Program) (t:TypeId):Option IntKind:=(P.underlying t).bind fun | .int k=>some k|_=>none
@[go_sem] def aconv (P:Program) (src dst:TypeId) (x:AV):Option AV :=
  match intT P dst,undT P src,x with
  | some k,true,.val (.int _ n)=>some (.val (.int k (k.wrap n)))
  | _,_,_=>none
theorem uu {s:List AV} {o:Oper} {src dst:TypeId} {x:Operand} (ho:o.op = .convert src dst x) {av:AV} (h:aconv P src dst (ae s x)=some av):OpL P o s ⟨av,[],[]⟩ :=
 OpL.pure fun m hh w a rel hop=>by
  have hx:=hop x (by simp [ho,Op.operands])
  unfold aconv at h
  split at h
  ·rename_i k k' n h1 h2 h3
   rw [h3] at hx
   cases h
   obtain ⟨d,h2⟩:=Option.isSome_iff_exists.1 h2
   refine ⟨_,?_,.val _⟩
   simp only [intT,Option.bind_eq_some_iff] at h1
   obtain ⟨d1,hd1,hk⟩:=h1
   cases d1<;>simp at hk
   subst hk
   simp [execOp,ho,hx.val_inv,convert,run_underlying h2,run_underlying hd1,Conv.intToInt]
  ·cases h
@[go_sem] def anil (x:AV):Option AV:=match x with | .ptr b i j=>some (.ptr b i j) | .lptr r row j=>some (.lptr r row j) | .clo f c=>some (.clo f c)|_=>none
@[go_sem] def alive (look:Nat→Own):AV→Option (List (Nat × Own))
  | .ptr b _ _=>match look b with | .live k=>some [(b,.live k)]|_=>none
  | .lptr r _ _=>match look r with | .perm=>some [(r,.perm)] | .uniq=>some [(r,.uniq)]|_=>none
  | .sl b _ _=>match look b with | .live k=>some [(b,.live k)]|_=>none
  | .list r _ _=>match look r with | .perm=>some [(r,.perm)] | .uniq=>some [(r,.uniq)]|_=>none
  | .glist r _ _=>match look r with | .perm=>some [(r,.perm)] | .uniq=>some [(r,.uniq)]|_=>none
  | _=>some []
theorem jm {look:Nat→Own} {b i j:Nat} {rd:List (Nat × Own)} (h:alive look (.ptr b i j)=some rd) : ∃ k,rd=[(b,.live k)]:=by
 simp only [alive] at h
 split at h
 ·cases h;exact ⟨_,rfl⟩
 ·cases h
theorem hZ {look:Nat→Own} {r j:Nat} {row:List AV} {rd:List (Nat × Own)} (h:alive look (.lptr r row j)=some rd) : ∃ kd:Own,kd.imm∧rd=[(r,kd)]:=by
 simp only [alive] at h
 split at h
 ·cases h;exact ⟨.perm,trivial,rfl⟩
 ·cases h;exact ⟨.uniq,trivial,rfl⟩
 ·cases h
theorem oe {look:Nat→Own} {b i j:Nat} {rd:List (Nat × Own)} (h:alive look (.sl b i j)=some rd) : ∃ k,rd=[(b,.live k)]:=by
 simp only [alive] at h
 split at h
 ·cases h;exact ⟨_,rfl⟩
 ·cases h
theorem eP {look:Nat→Own} {r j:Nat} {row:List (List AV)} {rd:List (Nat × Own)} (h:alive look (.list r j row)=some rd) : ∃ kd:Own,kd.imm∧rd=[(r,kd)]:=by
 simp only [alive] at h
 split at h
 ·cases h;exact ⟨.perm,trivial,rfl⟩
 ·cases h;exact ⟨.uniq,trivial,rfl⟩
 ·cases h
theorem el {look:Nat→Own} {r j:Nat} {row:List (List AV)} {rd:List (Nat × Own)} (h:alive look (.glist r j row)=some rd) : ∃ kd:Own,kd.imm∧rd=[(r,kd)]:=by
 simp only [alive] at h
 split at h
 ·cases h;exact ⟨.perm,trivial,rfl⟩
 ·cases h;exact ⟨.uniq,trivial,rfl⟩
 ·cases h
theorem OpL.pureR {o:Oper} {s:List AV} {av:AV} {rd:List (Nat × Own)} (H : ∀ (m:Nm) (h:Hp) (w:World) (a:Act),(∀ p∈rd,h p.1=p.2)→Rel m h w→(∀ x∈o.op.operands,R m h w (ae s x) (a.eval x)) → ∃ v,(execOp a.eval o).run P w = .ok (.value v) w∧R m h w av v):OpL P o s ⟨av,rd,[]⟩:=by
 intro h hrd m w a rel hop
 obtain ⟨v,h1,h2⟩:=H m h w a hrd rel hop
 exact ⟨_,v,m,w,h1,.inl rfl,rel,Ev.refl m h w,h2⟩
theorem wb {s:List AV} {o:Oper} {x:Operand} (ho:o.op = .nilCheck x) {look:Nat→Own} {av:AV} {rd:List (Nat × Own)} (h:anil (ae s x)=some av) (hl:alive look (ae s x)=some rd):OpL P o s ⟨av,rd,[]⟩ :=
 OpL.pureR fun m hh w a hrd rel hop=>by
  have hx:=hop x (by simp [ho,Op.operands])
  unfold anil at h
  split at h
  ·rename_i b i j e
   rw [e] at hx hl
   cases h
   obtain ⟨k,rfl⟩:=jm hl
   obtain ⟨e2,_⟩:=R.ptr_row rel (hrd (b,.live k) (by simp)) hx
   exact ⟨a.eval x,by simp [execOp,ho,e2],hx⟩
  ·rename_i r row j e
   rw [e] at hx hl
   cases h
   obtain ⟨kd,hk,rfl⟩:=hZ hl
   obtain ⟨g,off,e2,_⟩:=R.lptr_row (by rw [hrd (r,kd) (by simp)];exact hk) hx
   exact ⟨a.eval x,by simp [execOp,ho,e2],hx⟩
  ·rename_i f c e
   rw [e] at hx
   cases h
   cases hx' : a.eval x<;>rw [hx'] at hx<;>(try (cases hx;done))
   rename_i fn first cap
   cases hx with
   | clo _ _ _ hl hc=>exact ⟨_,by simp only [execOp,ho,hx', Sem.run_pure],.clo _ _ _ hl hc⟩
  ·cases h
@[go_sem] def afield (P:Program) (t:TypeId) (f:Nat) (x:AV):Option AV :=
  match kQ P t f,x with
  | some (off,ft,n),.agg cs=>match dH P ft with
    | some true=>if off + n≤cs.length then some (.agg ((cs.drop off).take n)) else none
    | some false=>cs[off]?
    | none=>none
  | _,_=>none
theorem lm {t:TypeId} {f:Nat} {off n:Nat} {ft:TypeId} (h:kQ P t f=some (off,ft,n)) : ∃ (fs:Array Field) (x:Field),P.underlying t=some (.struct fs)∧fs[f]?=some x∧x.offset=off∧x.type=ft∧aY P ft=some n:=by
 simp only [kQ,Option.bind_eq_some_iff] at h
 obtain ⟨d,hd,h⟩:=h
 cases d<;>simp only [reduceCtorEq,Option.bind_eq_some_iff,Option.map_eq_some_iff,Prod.mk.injEq] at h
 rename_i fs
 obtain ⟨x,hx,n', hn,rfl,rfl,rfl⟩:=h
 exact ⟨fs,x,hd,hx,rfl,rfl,hn⟩
theorem rR {s:List AV} {o:Oper} {t:TypeId} {x:Operand} {f:Nat} (ho:o.op = .field t x f) {av:AV} (h:afield P t f (ae s x)=some av):OpL P o s ⟨av,[],[]⟩ :=
 OpL.pure fun m hh w a rel hop=>by
  have hx:=hop x (by simp [ho,Op.operands])
  unfold afield at h
  split at h
  ·rename_i off ft n cs h1 h2
   rw [h2] at hx
   obtain ⟨fs,fl,hu,hf,ho1,ho2,hn⟩:=lm h1
   generalize hev:a.eval x=v at hx
   cases hx with
   | agg _ vs hl hc =>
     split at h
     ·rename_i hag
      split at h
      ·rename_i hle
       cases h
       refine ⟨.agg (vs.extract off (off + n)),?_,?_⟩
       ·simp [execOp,ho,hev,Instr.field,run_underlying hu,hf,asAgg,part,ho1,ho2,fj hag,aW hn]
       ·refine .agg _ _ (by simp;omega) fun i c v h3 h4=>?_
        rw [List.getElem?_take] at h3
        split at h3
        ·rw [List.getElem?_drop] at h3
         rw [Array.getElem?_extract] at h4
         split at h4
         ·exact hc (off + i) c v h3 h4
         ·cases h4
        ·cases h3
      ·cases h
     ·rename_i hag
      have hlt:off < cs.length:=(List.getElem?_eq_some_iff.1 h).1
      refine ⟨vs[off]'(by omega),?_,hc off av _ h (by simp [show off < vs.size by omega])⟩
      simp [execOp,ho,hev,Instr.field,run_underlying hu,hf,asAgg,part,ho1,ho2,fj hag,show off < vs.size by omega]
     ·cases h
  ·cases h
@[go_sem] def aextract (x:AV) (i:Nat):Option AV:=match x with | .tup cs=>cs[i]?|_=>none
theorem oE {s:List AV} {o:Oper} {x:Operand} {f:Nat} (ho:o.op = .extract x f) {av:AV} (h:aextract (ae s x) f=some av):OpL P o s ⟨av,[],[]⟩ :=
 OpL.pure fun m hh w a rel hop=>by
  have hx:=hop x (by simp [ho,Op.operands])
  unfold aextract at h
  split at h
  ·rename_i cs h2
   rw [h2] at hx
   generalize hev:a.eval x=v at hx
   cases hx with
   | tup _ vs hl hc =>
     have hlt:f < cs.length:=(List.getElem?_eq_some_iff.1 h).1
     refine ⟨vs[f]'(by omega),?_,hc f av _ h (by simp [show f < vs.size by omega])⟩
     simp [execOp,ho,hev,Instr.extract,show f < vs.size by omega]
  ·cases h
@[go_sem] def afaddr (P:Program) (t:TypeId) (f:Nat) (x:AV):Option AV :=
  match kQ P t f with
  | some (off,_,n)=>if n=0 then none else match x with
    | .ptr b i j=>some (.ptr b i (j + off))
    | .lptr r row j=>some (.lptr r row (j + off))
    | _=>none
  | none=>none
theorem sj {s:List AV} {o:Oper} {t:TypeId} {x:Operand} {f:Nat} (ho:o.op = .fieldAddr t x f) {look:Nat→Own} {av:AV} {rd:List (Nat × Own)} (h:afaddr P t f (ae s x)=some av) (hl:alive look (ae s x)=some rd):OpL P o s ⟨av,rd,[]⟩ :=
 OpL.pureR fun m hh w a hrd rel hop=>by
  have hx:=hop x (by simp [ho,Op.operands])
  unfold afaddr at h
  split at h
  ·rename_i off ft n h1
   obtain ⟨fs,fl,hu,hf,ho1,ho2,hn⟩:=lm h1
   split at h
   ·cases h
   ·rename_i hn0
    split at h
    ·rename_i b i j e
     rw [e] at hx hl
     cases h
     obtain ⟨k,rfl⟩:=jm hl
     have hb:=hrd (b,.live k) (by simp)
     obtain ⟨e2,_⟩:=R.ptr_row rel hb hx
     refine ⟨.pointer (some ⟨(m.pl b).1,(m.pl b).2 + i * k.sz + (j + off),none⟩),?_,.ptr b i (j + off) k hb⟩
     simp [execOp,ho,e2,Instr.fieldAt,run_underlying hu,hf,Instr.sureAddr,fieldPlace,ho1,ho2,aW hn,hn0,bo,Nat.add_assoc]
    ·rename_i r row j e
     rw [e] at hx hl
     cases h
     obtain ⟨kd,hk,rfl⟩:=hZ hl
     have hi:(hh r).imm:=by rw [hrd (r,kd) (by simp)];exact hk
     generalize hev:a.eval x=v at hx
     cases hx with
     | lptr _ _ _ hr g off0 hg f0 hf0 hRR =>
       refine ⟨.pointer (some ⟨g,off0 + (j + off),none⟩),?_,.lptr r row (j + off) hr g off0 hg f0 hf0 hRR⟩
       simp [execOp,ho,hev,Instr.fieldAt,run_underlying hu,hf,Instr.sureAddr,fieldPlace,ho1,ho2,aW hn,hn0,bo,Nat.add_assoc]
     | lptrD _ _ _ _ hd _=>rw [hd] at hi;exact hi.elim
    ·cases h
  ·cases h
end
section
variable {P:Program}
theorem jB (w:World) (e:TypeId) (cs:Array Value):(newRow e cs).run P w = .ok ⟨w.heap.size,0,none⟩ (w.alloc (.cells cs e)):=by
 simp [newRow]
theorem mn {m:Nm} {h:Hp} {w:World} (rel:Rel m h w) {id:Nat} (hu:h id = .unused) (e:TypeId) (row:List AV) (vs:Array Value) (hl:row.length=vs.size)
 (hc : ∀ (i:Nat) (c:AV) (v:Value),row[i]?=some c→vs[i]?=some v→R m h w c v) :
 Rel (m.at id (w.heap.size,0)) (h.upd id (.live ⟨row.length,e,[row]⟩)) (w.alloc (.cells vs e))∧Ev m h w (m.at id (w.heap.size,0)) (h.upd id (.live ⟨row.length,e,[row]⟩)) (w.alloc (.cells vs e)):=by
 refine rel.alloc hu ⟨row.length,e,[row]⟩ vs rfl rfl rfl rfl (by simp [hl]) (by simp) fun i j row' c h1 h2=>?_
 have hi:i=0:=by
  have:=(List.getElem?_eq_some_iff.1 h1).1
  simp at this;exact this
 subst hi
 simp at h1
 subst h1
 have hj:j < row.length:=(List.getElem?_eq_some_iff.1 h2).1
 exact ⟨vs[j]'(by omega),by simp [show j < vs.size by omega],hc j c _ h2 (by simp [show j < vs.size by omega])⟩
@[go_sem] def aalloc (P:Program) (t:TypeId) (fresh:Nat):Option Res :=
  (dA P t).map fun z=>⟨.ptr fresh 0 0,[(fresh,.unused)],[(fresh,.live ⟨z.length,t,[z.map .val]⟩)]⟩
theorem sZ {s:List AV} {o:Oper} {t:TypeId} (ho:o.op = .alloc t) {fresh:Nat} {r:Res} (h:aalloc P t fresh=some r):OpL P o s r:=by
 simp only [aalloc,Option.map_eq_some_iff] at h
 obtain ⟨z,hz,rfl⟩:=h
 intro h hrd m w a rel hop
 have hu:h fresh = .unused:=hrd (fresh,.unused) (by simp)
 obtain ⟨v,hv,hcs⟩:=ig hz w
 have A:=mn rel hu t (z.map .val) v.cells (by simp [hcs]) (fun i c v' h1 h2=>by
  rw [hcs] at h2
  simp at h1 h2
  obtain ⟨u,hu1,rfl⟩:=h1
  rw [hu1] at h2
  cases h2
  exact .val _)
 simp only [List.length_map] at A
 refine ⟨_,.pointer (some ⟨w.heap.size,0,none⟩),_,_,?_,.inl rfl,A.1,A.2,?_⟩
 ·simp [execOp,ho,Instr.alloc,hv,newVar,jB]
 ·have:=R.ptr (m:=m.at fresh (w.heap.size,0)) (h:=h.upd fresh (.live ⟨z.length,t,[z.map .val]⟩)) (w:=w.alloc (.cells v.cells t)) fresh 0 0 _ (Hp.upd_same _ _ _)
  simpa [Nm.at_same,Hp.upds] using this
@[go_sem] def abox (t:TypeId) (x:AV) (fresh:Nat):Option Res :=
  if x.cells.all AV.one=true then some ⟨.ptr fresh 0 0,[(fresh,.unused)],[(fresh,.live ⟨x.cells.length,t,[x.cells]⟩)]⟩ else none
theorem wX {s:List AV} {o:Oper} {t:TypeId} {x:Operand} (ho:o.op = .box t x) {fresh:Nat} {r:Res} (h:abox t (ae s x) fresh=some r):OpL P o s r:=by
 unfold abox at h
 split at h
 case isFalse=>cases h
 rename_i hall
 cases h
 intro h hrd m w a rel hop
 have hu:h fresh = .unused:=hrd (fresh,.unused) (by simp)
 have hx:=hop x (by simp [ho,Op.operands])
 generalize ae s x=c at *
 obtain ⟨cl,cR⟩:=hx.cells hall
 have A:=mn rel hu t c.cells (a.eval x).cells cl cR
 refine ⟨_,.pointer (some ⟨w.heap.size,0,none⟩),_,_,?_,.inl rfl,A.1,A.2,?_⟩
 ·simp [execOp,ho,Instr.box,newVar,jB]
 ·have:=R.ptr (m:=m.at fresh (w.heap.size,0)) (h:=h.upd fresh (.live ⟨c.cells.length,t,[c.cells]⟩)) (w:=w.alloc (.cells (a.eval x).cells t)) fresh 0 0 _ (Hp.upd_same _ _ _)
  simpa [Nm.at_same,Hp.upds] using this
def jl {α β:Type} : List α→(List α→Option β)→Option β
 | [],K=>K []
 | x::xs,K=>jl xs fun ys=>K (x::ys)
theorem eI {α β:Type} : ∀ (l:List α) (K:List α→Option β),jl l K=K l
 | [],K=>rfl
 | x::xs,K=>eI xs _
@[go_sem] def afill (place:Nat→Option (Nat × Nat)) (cells:List AV):List (Nat × AV)→Option (List AV)
  | []=>some cells
  | p::rest =>
    match place p.1 with
    | none=>none
    | some q=>if p.2.cells.length=q.2∧q.1 + q.2≤cells.length∧p.2.cells.all AV.one=true then jl (cells.take q.1 ++ p.2.cells ++ cells.drop (q.1 + q.2)) fun cells=>afill place cells rest else none
theorem mo (off:Nat) : ∀ (l:List Value) (k:Nat) (cells:Array Value),off + k + l.length≤cells.size →
 ((l.zipIdx k).foldl (fun (cs:Array Value) (p:Value × Nat)=>cs.setIfInBounds (off + p.2) p.1) cells).toList=cells.toList.take (off + k) ++ l ++ cells.toList.drop (off + k + l.length)
 | [],k,cells,_=>by simp
 | v::l,k,cells,h=>by
   have h' : off + k + (l.length + 1)≤cells.size:=by simpa using h
   simp only [List.zipIdx_cons,List.foldl_cons]
   rw [mo off l (k + 1) (cells.setIfInBounds (off + k) v) (by simp;omega),Array.toList_setIfInBounds]
   have e:=list_seg_step cells.toList (off + k) v l (by simp;omega)
   simpa [Nat.add_assoc] using e
theorem j6 {m:Nm} {h:Hp} {w:World} {place:Nat→Option (Nat × Nat)} : ∀ (parts:List (Nat × AV)) (vparts:List (Nat × Value)) (cells:List AV) (vcells:Array Value) (out:List AV),
 afill place cells parts=some out→parts.length=vparts.length→(∀ (i:Nat) (p:Nat × AV) (q:Nat × Value),parts[i]?=some p→vparts[i]?=some q→p.1=q.1∧R m h w p.2 q.2) →
 cells.length=vcells.size→(∀ (i:Nat) (c:AV) (v:Value),cells[i]?=some c→vcells[i]?=some v→R m h w c v) →
 ∃ vout:Array Value,Instr.fill place vcells vparts=some vout∧out.length=vout.size ∧ ∀ (i:Nat) (c:AV) (v:Value),out[i]?=some c→vout[i]?=some v→R m h w c v
 | [],[],cells,vcells,out,h1,_,_,hl,hR=>by
   simp only [afill,Option.some.injEq] at h1
   subst h1
   exact ⟨vcells,rfl,hl,hR⟩
 | [],_::_,_,_,_,_,h2,_,_,_=>by simp at h2
 | _::_,[],_,_,_,_,h2,_,_,_=>by simp at h2
 | p::parts,q::vparts,cells,vcells,out,h1,h2,h3,hl,hR=>by
   obtain ⟨i,c⟩:=p
   obtain ⟨i', v⟩:=q
   obtain ⟨e,hcv⟩:=h3 0 (i,c) (i', v) rfl rfl
   simp only at e hcv
   subst e
   simp only [afill,eI] at h1
   split at h1
   ·cases h1
   ·rename_i q hq
    obtain ⟨off,size⟩:=q
    simp only at h1
    split at h1
    ·rename_i hcond
     obtain ⟨c1,c2,c3⟩:=hcond
     obtain ⟨cl,cR⟩:=hcv.cells c3
     have hvs:v.cells.size=size:=by omega
     have hf:=mo off v.cells.toList 0 vcells (by simp;omega)
     simp only [Nat.add_zero,Array.length_toList,hvs] at hf
     generalize hW:(v.cells.toList.zipIdx 0).foldl (fun (cs:Array Value) (p:Value × Nat)=>cs.setIfInBounds (off + p.2) p.1) vcells=W at hf
     have hWs:W.size=vcells.size:=by
      have:=congrArg List.length hf
      simp [hvs] at this
      omega
     obtain ⟨vout,r1,r2,r3⟩:=j6 parts vparts _ W out h1 (by simpa using h2) (fun i p q hp hq=>h3 (i + 1) p q (by simpa using hp) (by simpa using hq)) (by simp [c1];omega)
      (fun i x u hx hu=>by
       rw [bQ cells c.cells off size i c1 c2] at hx
       have hu' : W.toList[i]?=some u:=by simpa using hu
       rw [hf,bQ vcells.toList v.cells.toList off size i (by simpa using hvs) (by simp;omega)] at hu'
       split at hx
       ·rename_i hin
        rw [if_pos hin] at hu'
        exact cR (i - off) x u hx (by simpa using hu')
       ·rename_i hout
        rw [if_neg hout] at hu'
        exact hR i x u hx (by simpa using hu'))
     refine ⟨vout,?_,r2,r3⟩
     simp only [Instr.fill,hq]
     rw [if_neg (by simp [hvs];omega)]
     rw [← r1]
     congr 1
     rw [← hW, ← Array.foldl_toList,Array.toList_zipIdx]
    ·cases h1
@[go_sem] def placesT (P:Program) (t:TypeId) (i:Nat):Option (Nat × Nat):=(lz P t).bind fun l=>l[i]?
@[go_sem] def abuild (P:Program) (t:TypeId) (parts:List (Nat × AV)):Option AV :=
  match lz P t,dA P t with
  | some l,some z=>jl (z.map .val) fun c=>(afill (fun i=>l[i]?) c parts).map .agg
  | _,_=>none
theorem oY {fs:List Field} {l:List (Nat × Nat)} : (fs.mapM fun x=>(aY P x.type).map fun n=>(x.offset,n))=some l → ∀ (w:World),(fs.mapM fun f=>(do pure (f.offset, ← sizeOf f.type):Sem (Nat × Nat))).run P w = .ok l w:=by
 induction fs generalizing l with
 | nil=>intro h w;simp at h;subst h;simp
 | cons f fs ih =>
   intro h w
   simp only [List.mapM_cons,Option.bind_eq_bind,Option.bind_eq_some_iff,Option.map_eq_some_iff,Option.pure_def,Option.some.injEq] at h
   obtain ⟨a,⟨n,hn,rfl⟩,l', hl', rfl⟩:=h
   simp only [List.mapM_cons,Sem.run_bind,aW hn,Result.andThen_ok,Sem.run_pure,ih hl']
theorem sy {s:List AV} {o:Oper} {t:TypeId} {parts:Array (Nat × Operand)} (ho:o.op = .build t parts) {av:AV} (h:abuild P t (parts.toList.map fun p=>(p.1,ae s p.2))=some av):OpL P o s ⟨av,[],[]⟩ :=
 OpL.pure fun m hh w a rel hop=>by
  unfold abuild at h
  split at h
  case h_2=>cases h
  rename_i l z hl hz
  simp only [eI,Option.map_eq_some_iff] at h
  obtain ⟨out,hout,rfl⟩:=h
  obtain ⟨v,hv,hcs⟩:=ig hz w
  have hops : ∀ x,x∈parts.toList.map (·.2)→R m hh w (ae s x) (a.eval x):=fun x hx=>hop x (by simpa [ho,Op.operands] using hx)
  obtain ⟨vout,r1,r2,r3⟩:=j6 (m:=m) (h:=hh) (w:=w) (place:=fun (i:Nat)=>l[i]?) _ (parts.toList.map fun p=>(p.1,a.eval p.2)) _ v.cells out hout (by simp) (fun (i:Nat) (p:Nat × AV) (q:Nat × Value) hp hq=>by
   simp only [List.getElem?_map,Option.map_eq_some_iff] at hp hq
   obtain ⟨p0,hp0,rfl⟩:=hp
   obtain ⟨q0,hq0,rfl⟩:=hq
   rw [hp0] at hq0
   cases hq0
   exact ⟨rfl,hops _ (List.mem_map.2 ⟨p0,List.mem_of_getElem? hp0,rfl⟩)⟩) (by simp [hcs]) (fun i c v' h1 h2=>by
   rw [hcs] at h2
   simp at h1 h2
   obtain ⟨u,hu1,rfl⟩:=h1
   rw [hu1] at h2
   cases h2
   exact .val _)
  refine ⟨.agg vout,?_,.agg _ _ r2 r3⟩
  simp only [lz,Option.bind_eq_some_iff] at hl
  obtain ⟨d,hd,hl⟩:=hl
  cases d<;>simp only [reduceCtorEq] at hl
  rename_i fs
  have hm:=oY hl w
  have hm' : (fs.mapM fun f=>(do pure (f.offset, ← sizeOf f.type):Sem (Nat × Nat))).run P w = .ok l.toArray w:=by
   rw [Array.mapM_eq_mapM_toList,Sem.run_map,hm]
   rfl
  simp only [execOp,ho,Instr.build,Sem.run_bind,hv,Result.andThen_ok,run_underlying hd,hm', Sem.run_pure]
  have e:(parts.map fun x=>match x with|(i,x)=>(i,a.eval x)).toList=parts.toList.map fun p=>(p.1,a.eval p.2):=by simp
  rw [e]
  simp [r1]
end
section
variable {P:Program}
theorem di {t e:TypeId} (h:bw P t=some e):P.underlying t=some (.slice e):=by
 simp only [bw,Option.bind_eq_some_iff] at h
 obtain ⟨d,hd,h⟩:=h
 cases d<;>simp only [reduceCtorEq,Option.some.injEq] at h
 subst h;exact hd
theorem ue {t e:TypeId} {n:Nat} (h:arrT P t=some (n,e)):P.underlying t=some (.array n e):=by
 simp only [arrT,Option.bind_eq_some_iff] at h
 obtain ⟨d,hd,h⟩:=h
 cases d<;>simp only [reduceCtorEq,Option.some.injEq,Prod.mk.injEq] at h
 obtain ⟨rfl,rfl⟩:=h;exact hd
theorem R.sl_inv {m:Nm} {h:Hp} {w:World} {b i n:Nat} {v:Value} {k:Blk} (rel:Rel m h w) (hb:h b = .live k) (hR:R m h w (.sl b i n) v) :
 ∃ off cap,v = .slice (some ⟨(m.pl b).1,off,none⟩) n cap∧i + n≤k.rows.length∧n≤cap∧cap≤maxLen∧(cap≠0→off=(m.pl b).2 + i * k.sz) ∧
  ∀ (cur:Array Value) (e:TypeId) (f:Nat × Nat),w.heap[(m.pl b).1]?=some (.cells cur e f)→cap≠0→(m.pl b).2 + (i + cap) * k.sz≤cur.size:=by
 cases hR with
 | sl _ _ _ k' hb' off cap hn hc hm ho hz =>
   rw [hb] at hb'; cases hb'
   exact ⟨off,cap,rfl,hn,hc,hm,ho,hz⟩
 | slD _ _ _ _ hd _=>rw [hb] at hd;cases hd
theorem R.list_inv {m:Nm} {h:Hp} {w:World} {r sz:Nat} {rows:List (List AV)} {v:Value} (hi:(h r).imm) (hR:R m h w (.list r sz rows) v) :
 (rows=[]∧v = .slice none 0 0)∨(rows=[] ∧ ∃ a cap,v = .slice (some a) 0 cap∧cap≤maxLen) ∨ ∃ g off cap,v = .slice (some ⟨g,off,none⟩) rows.length cap∧m.set r g∧rows.length≤cap∧cap≤maxLen∧(∀ row,row∈rows→row.length=sz) ∧
  ∃ f:Nat→Nat→Value,(∀ (i j:Nat) (row:List AV) (c:AV),rows[i]?=some row→row[j]?=some c→w.cell? ⟨g,off + i * sz + j,none⟩=some (f i j)) ∧ ∀ (i j:Nat) (row:List AV) (c:AV),rows[i]?=some row→row[j]?=some c→R m h w c (f i j):=by
 cases hR with
 | nil=>exact .inl ⟨rfl,rfl⟩
 | emp _ _ cap a hr hm=>exact .inr (.inl ⟨rfl,a,cap,rfl,hm⟩)
 | list _ _ _ hr g off cap hg hc hm hw f hf hRR=>exact .inr (.inr ⟨g,off,cap,rfl,hg,hc,hm,hw,f,hf,hRR⟩)
 | listD _ _ _ _ hd _=>rw [hd] at hi;exact hi.elim
@[go_sem] def alen (x:AV):Option Nat :=
  match x with
  | .sl _ _ n=>some n
  | .list _ _ rows=>some rows.length
  | .glist _ _ rows=>some rows.length
  | .val (.slice none 0 0)=>some 0
  | _=>none
theorem xd {m:Nm} {h:Hp} {w:World} {look:Nat→Own} {x:AV} {n:Nat} {v:Value} {rd:List (Nat × Own)} (rel:Rel m h w) (hx:alen x=some n) (hl:alive look x=some rd) (hrd : ∀ p∈rd,h p.1=p.2) (hR:R m h w x v) :
 ∃ a cap,v = .slice a n cap:=by
 unfold alen at hx
 split at hx
 ·cases hx
  obtain ⟨k,rfl⟩:=oe hl
  obtain ⟨off,cap,e,_⟩:=R.sl_inv rel (hrd (_,.live k) (by simp)) hR
  exact ⟨_,_,e⟩
 ·cases hx
  obtain ⟨kd,hk,rfl⟩:=eP hl
  rcases R.list_inv (by rw [hrd (_,kd) (by simp)];exact hk) hR with ⟨h1,h2⟩|⟨h1,a,cap,h2,_⟩|⟨g,off,cap,e,_⟩
  ·rw [h1];exact ⟨_,_,h2⟩
  ·rw [h1];exact ⟨_,_,h2⟩
  ·exact ⟨_,_,e⟩
 ·cases hx
  obtain ⟨kd,hk,rfl⟩:=el hl
  rcases R.list_inv (by rw [hrd (_,kd) (by simp)];exact hk) hR.g2l with ⟨h1,h2⟩|⟨h1,a,cap,h2,_⟩|⟨g,off,cap,e,_⟩
  ·rw [h1];exact ⟨_,_,h2⟩
  ·rw [h1];exact ⟨_,_,h2⟩
  ·exact ⟨_,_,e⟩
 ·cases hx
  exact ⟨_,_,hR.val_inv⟩
 ·cases hx
theorem wA {s:List AV} {o:Oper} {t:TypeId} {x:Operand} (ho:o.op = .call { callee := .builtin .len,args := #[x],argTypes := #[t] }) {e:TypeId} (ht:bw P t=some e) {look:Nat→Own} {n:Nat} {rd:List (Nat × Own)}
 (h:alen (ae s x)=some n) (hl:alive look (ae s x)=some rd):OpL P o s ⟨.val (.int .i64 n),rd,[]⟩ :=
 OpL.pureR fun m hh w a hrd rel hop=>by
  obtain ⟨ad,cap,e⟩:=xd rel h hl hrd (hop x (by simp [ho,Op.operands,Call.operands]))
  exact ⟨_,by simp [execOp,ho,resolve,invoke,builtin,Builtin.len_,e,run_underlying (di ht),goInt],.val _⟩
@[go_sem] def aindex (P:Program) (t:TypeId) (x:AV) (ix:Int) (look:Nat→Own):Option AV :=
  match bw P t with
  | some e=>match aY P e with
    | some n=>match x with
      | .sl b i len=>match look b with
        | .live k=>if k.sz=n∧0≤ix∧ix < len then some (.ptr b (i + ix.toNat) 0) else none
        | _=>none
      | .list r sz rows=>if sz=n∧0≤ix then (rows[ix.toNat]?).map fun row => .lptr r row 0 else none
      | .glist r sz rows=>if sz=n∧0≤ix then (rows[ix.toNat]?).map fun row => .lptr r row 0 else none
      | _=>none
    | none=>none
  | none=>match arrT P t with
    | some (len,e)=>match aY P e with
      | some n=>if 0≤ix∧ix < len then match x with
        | .ptr b i j=>some (.ptr b i (j + ix.toNat * n))
        | .lptr r row j=>some (.lptr r row (j + ix.toNat * n))
        | _=>none
        else none
      | none=>none
    | none=>none
theorem rQ {s:List AV} {o:Oper} {t:TypeId} {x y:Operand} (ho:o.op = .indexAddr t x y) {k:IntKind} {ix:Int} (hy:ae s y = .val (.int k ix)) {look:Nat→Own} {av:AV} {rd:List (Nat × Own)}
 (h:aindex P t (ae s x) ix look=some av) (hl:alive look (ae s x)=some rd):OpL P o s ⟨av,rd,[]⟩:=by
 -- what 'alive' looked at is what 'aindex' looked at
 have hsl : ∀ b i len kk,ae s x = .sl b i len→look b = .live kk→rd=[(b,.live kk)]:=fun b i len kk e1 e2=>by
  rw [e1] at hl;simp only [alive,e2,Option.some.injEq] at hl;exact hl.symm
 refine OpL.pureR fun m hh w a hrd rel hop=>?_
 have hx:=hop x (by simp [ho,Op.operands])
 have hyy:=hop y (by simp [ho,Op.operands])
 rw [hy] at hyy
 have ey:=hyy.val_inv
 unfold aindex at h
 split at h
 ·rename_i e he
  have hu:=di he
  split at h
  ·rename_i n hn
   split at h
   ·rename_i b i len hxe
    split at h
    ·rename_i kk hkk
     split at h
     ·rename_i hcond
      obtain ⟨c1,c2,c3⟩:=hcond
      cases h
      rw [hxe] at hx
      have hb:hh b = .live kk:=hrd (b,.live kk) (by rw [hsl b i len kk hxe hkk];simp)
      obtain ⟨off,cap,e1,h1,h2,_,h3,_⟩:=R.sl_inv rel hb hx
      have hcap:cap≠0:=by omega
      refine ⟨.pointer (some ⟨(m.pl b).1,(m.pl b).2 + (i + ix.toNat) * kk.sz + 0,none⟩),?_,.ptr b _ 0 kk hb⟩
      have:=h3 hcap
      subst this
      simp [execOp,ho,ey,e1,Instr.indexAt,asIntOf,run_underlying hu,c2,c3,aW hn,bo, ← c1,Nat.add_mul,Nat.add_assoc]
     ·cases h
    ·cases h
   ·rename_i r sz rows hxe
    split at h
    ·rename_i hcond
     obtain ⟨c1,c2⟩:=hcond
     simp only [Option.map_eq_some_iff] at h
     obtain ⟨row,hrow,rfl⟩:=h
     rw [hxe] at hx hl
     obtain ⟨kd,hk,rfl⟩:=eP hl
     have hi:(hh r).imm:=by rw [hrd (r,kd) (by simp)];exact hk
     have hlt:ix.toNat < rows.length:=(List.getElem?_eq_some_iff.1 hrow).1
     rcases R.list_inv hi hx with ⟨h1,_⟩|⟨h1,_⟩|⟨g,off,cap,e1,hg,h2,_,h3,f,hf,hRR⟩
     ·rw [h1] at hlt;simp at hlt
     ·rw [h1] at hlt;simp at hlt
     ·refine ⟨.pointer (some ⟨g,off + ix.toNat * sz + 0,none⟩),?_,.lptr r row 0 hi g (off + ix.toNat * sz) hg (fun j=>f ix.toNat j) (fun j c hc=>by rw [hf _ j row c hrow hc]) fun j c hc=>hRR _ j row c hrow hc⟩
      simp [execOp,ho,ey,e1,Instr.indexAt,asIntOf,run_underlying hu,c2,show ix < (rows.length:Int) by omega,aW hn,bo, ← c1]
    ·cases h
   ·rename_i r sz rows hxe
    split at h
    ·rename_i hcond
     obtain ⟨c1,c2⟩:=hcond
     simp only [Option.map_eq_some_iff] at h
     obtain ⟨row,hrow,rfl⟩:=h
     rw [hxe] at hx hl
     obtain ⟨kd,hk,rfl⟩:=el hl
     have hi:(hh r).imm:=by rw [hrd (r,kd) (by simp)];exact hk
     have hlt:ix.toNat < rows.length:=(List.getElem?_eq_some_iff.1 hrow).1
     rcases R.list_inv hi hx.g2l with ⟨h1,_⟩|⟨h1,_⟩|⟨g,off,cap,e1,hg,h2,_,h3,f,hf,hRR⟩
     ·rw [h1] at hlt;simp at hlt
     ·rw [h1] at hlt;simp at hlt
     ·refine ⟨.pointer (some ⟨g,off + ix.toNat * sz + 0,none⟩),?_,.lptr r row 0 hi g (off + ix.toNat * sz) hg (fun j=>f ix.toNat j) (fun j c hc=>by rw [hf _ j row c hrow hc]) fun j c hc=>hRR _ j row c hrow hc⟩
      simp [execOp,ho,ey,e1,Instr.indexAt,asIntOf,run_underlying hu,c2,show ix < (rows.length:Int) by omega,aW hn,bo, ← c1]
    ·cases h
   ·cases h
  ·cases h
 ·rename_i hne
  split at h
  ·rename_i len e hae
   have hu:=ue hae
   split at h
   ·rename_i n hn
    split at h
    ·rename_i hcond
     obtain ⟨c2,c3⟩:=hcond
     split at h
     ·rename_i b i j hxe
      cases h
      rw [hxe] at hx hl
      obtain ⟨kk,rfl⟩:=jm hl
      have hb:=hrd (b,.live kk) (by simp)
      obtain ⟨e2,_⟩:=R.ptr_row rel hb hx
      refine ⟨.pointer (some ⟨(m.pl b).1,(m.pl b).2 + i * kk.sz + (j + ix.toNat * n),none⟩),?_,.ptr b i (j + ix.toNat * n) kk hb⟩
      simp [execOp,ho,ey,e2,Instr.indexAt,asIntOf,run_underlying hu,Instr.sureAddr,c2,c3,aW hn,bo,Nat.add_assoc]
     ·rename_i r row j hxe
      cases h
      rw [hxe] at hx hl
      obtain ⟨kd,hk,rfl⟩:=hZ hl
      have hi:(hh r).imm:=by rw [hrd (r,kd) (by simp)];exact hk
      generalize hev:a.eval x=v at hx
      cases hx with
      | lptr _ _ _ hr g off0 hg f0 hf0 hRR =>
        refine ⟨.pointer (some ⟨g,off0 + (j + ix.toNat * n),none⟩),?_,.lptr r row (j + ix.toNat * n) hr g off0 hg f0 hf0 hRR⟩
        simp [execOp,ho,ey,hev,Instr.indexAt,asIntOf,run_underlying hu,Instr.sureAddr,c2,c3,aW hn,bo,Nat.add_assoc]
      | lptrD _ _ _ _ hd _=>rw [hd] at hi;exact hi.elim
     ·cases h
    ·cases h
   ·cases h
  ·cases h
@[go_sem] def abnd (s:List AV):Option Operand→Option (Option Int)
  | none=>some none
  | some x=>match ae s x with | .val (.int _ n)=>some (some n)|_=>none
@[go_sem] def aslice (P:Program) (t:TypeId) (x:AV) (lo hi mx:Option Int) (look:Nat→Own):Option AV :=
  match bw P t,alen x with
  | some e,some n =>
    match aY P e with
    | some n0 =>
      if 0≤lo.getD 0∧lo.getD 0≤hi.getD n∧hi.getD n≤mx.getD n∧mx.getD n≤n∧(mx=none∨hi≠none) then
       match x with
       | .sl b i _=>match look b with
         | .live k=>if k.sz=n0 then some (.sl b (i + (lo.getD 0).toNat) (hi.getD n - lo.getD 0).toNat) else none
         | _=>none
       | .list r sz rows=>if sz=n0 then some (.list r sz ((rows.drop (lo.getD 0).toNat).take (hi.getD n - lo.getD 0).toNat)) else none
       | .glist r sz rows=>if sz=n0 then some (.list r sz ((rows.drop (lo.getD 0).toNat).take (hi.getD n - lo.getD 0).toNat)) else none
       | .val (.slice none 0 0)=>some (.val (.slice none 0 0))
       | _=>none
      else none
    | none=>none
  | _,_=>none
theorem mD (w:World) (t:TypeId) (e:TypeId) (n:Nat) (hu:P.underlying t=some (.slice e)) (hn:aY P e=some n) (ad:Option Addr) (len cap:Nat) (hc:len≤cap)
 (lo hi mx:Option Value) (l h m:Int) (hl : ∀ v,lo=some v → ∃ k,v = .int k l) (hl0:lo=none→l=0) (hh : ∀ v,hi=some v → ∃ k,v = .int k h) (hh0:hi=none→h=len)
 (hm : ∀ v,mx=some v → ∃ k,v = .int k m) (hm0:mx=none→m=cap) (hmh:mx≠none→hi≠none) (c1:0≤l) (c2:l≤h) (c3:h≤m) (c4:m≤cap) :
 (Instr.sliceAt t (.slice ad len cap) lo hi mx).run P w = .ok (.slice (if m.toNat=l.toNat then ad else ad.map (·.add (l.toNat * n))) (h - l).toNat (m - l).toNat) w:=by
 have e1:(h - l).toNat=h.toNat - l.toNat:=by omega
 have e2:(m - l).toNat=m.toNat - l.toNat:=by omega
 rw [e1,e2]
 cases mx with
 | none =>
   have:=hm0 rfl
   subst this
   cases hi with
   | none =>
     have:=hh0 rfl
     subst this
     cases lo with
     | none =>
       have:=hl0 rfl
       subst this
       simp [Instr.sliceAt,run_underlying hu,Instr.slice,Instr.sliceBounds,aW hn]
     | some vl =>
       obtain ⟨kl,rfl⟩:=hl vl rfl
       simp [Instr.sliceAt,run_underlying hu,Instr.slice,Instr.sliceBounds,aW hn,run_sliceBound w kl l len _ c1 c2]
   | some vh =>
     obtain ⟨kh,rfl⟩:=hh vh rfl
     have b1:=fun code=>run_sliceBound (P:=P) w kh h cap code (by omega) (by omega)
     cases lo with
     | none =>
       have:=hl0 rfl
       subst this
       simp [Instr.sliceAt,run_underlying hu,Instr.slice,Instr.sliceBounds,aW hn,b1]
     | some vl =>
       obtain ⟨kl,rfl⟩:=hl vl rfl
       have b2:=fun code=>run_sliceBound (P:=P) w kl l h.toNat code c1 (by omega)
       simp [Instr.sliceAt,run_underlying hu,Instr.slice,Instr.sliceBounds,aW hn,b1,b2]
 | some vm =>
   obtain ⟨km,rfl⟩:=hm vm rfl
   have b0:=fun code=>run_sliceBound (P:=P) w km m cap code (by omega) c4
   cases hi with
   | none=>exact absurd rfl (hmh (by simp))
   | some vh =>
     obtain ⟨kh,rfl⟩:=hh vh rfl
     have b1:=fun code=>run_sliceBound (P:=P) w kh h m.toNat code (by omega) (by omega)
     cases lo with
     | none =>
       have:=hl0 rfl
       subst this
       simp [Instr.sliceAt,run_underlying hu,Instr.slice,Instr.sliceBounds,aW hn,b0,b1]
     | some vl =>
       obtain ⟨kl,rfl⟩:=hl vl rfl
       have b2:=fun code=>run_sliceBound (P:=P) w kl l h.toNat code c1 (by omega)
       simp [Instr.sliceAt,run_underlying hu,Instr.slice,Instr.sliceBounds,aW hn,b0,b1,b2]
theorem kj {m:Nm} {h:Hp} {w:World} {s:List AV} {a:Act} {lo:Option Operand} {l:Option Int} (hb:abnd s lo=some l) (hR : ∀ x,lo=some x→R m h w (ae s x) (a.eval x)) :
 (l=none ↔ lo=none) ∧ ∀ v,lo.map a.eval=some v → ∃ k,v = .int k (l.getD 0)∧l=some (l.getD 0):=by
 cases lo with
 | none=>simp only [abnd,Option.some.injEq] at hb;subst hb;simp
 | some x =>
   simp only [abnd] at hb
   split at hb
   ·rename_i k n e
    cases hb
    have:=hR x rfl
    rw [e] at this
    refine ⟨by simp,fun v hv=>?_⟩
    simp at hv
    subst hv
    exact ⟨k,this.val_inv,rfl⟩
   ·cases hb
theorem rU {s:List AV} {o:Oper} {t:TypeId} {x:Operand} {lo hi mx:Option Operand} (ho:o.op = .slice t x lo hi mx) {l h mm:Option Int} (hlo:abnd s lo=some l) (hhi:abnd s hi=some h) (hmx:abnd s mx=some mm)
 {look:Nat→Own} {av:AV} {rd:List (Nat × Own)} (hs:aslice P t (ae s x) l h mm look=some av) (hl:alive look (ae s x)=some rd):OpL P o s ⟨av,rd,[]⟩:=by
 have hsl : ∀ b i len kk,ae s x = .sl b i len→look b = .live kk→rd=[(b,.live kk)]:=fun b i len kk e1 e2=>by
  rw [e1] at hl;simp only [alive,e2,Option.some.injEq] at hl;exact hl.symm
 refine OpL.pureR fun m hh w a hrd rel hop=>?_
 have hx:=hop x (by simp [ho,Op.operands])
 obtain ⟨bl1,bl2⟩:=kj (m:=m) (h:=hh) (w:=w) (a:=a) hlo fun y hy=>hop y (by simp [ho,Op.operands,hy])
 obtain ⟨bh1,bh2⟩:=kj (m:=m) (h:=hh) (w:=w) (a:=a) hhi fun y hy=>hop y (by simp [ho,Op.operands,hy])
 obtain ⟨bm1,bm2⟩:=kj (m:=m) (h:=hh) (w:=w) (a:=a) hmx fun y hy=>hop y (by simp [ho,Op.operands,hy])
 unfold aslice at hs
 split at hs
 case h_2=>cases hs
 rename_i e n he hn
 split at hs
 case h_2=>cases hs
 rename_i n0 hn0
 split at hs
 case isFalse=>cases hs
 rename_i hcond
 obtain ⟨c1,c2,c3,c4,c5⟩:=hcond
 have hu:=di he
 -- the run,at whatever capacity
 have run : ∀ ad cap,n≤cap→a.eval x = .slice ad n cap→(execOp a.eval o).run P w = .ok (.value (.slice (if ((mm.getD cap:Int)).toNat=(l.getD 0).toNat then ad else ad.map (·.add ((l.getD 0).toNat * n0))) (h.getD n - l.getD 0).toNat (mm.getD (cap:Nat) - l.getD 0).toNat)) w:=by
  intro ad cap hcap ev
  have f1 : ∀ v,lo.map a.eval=some v → ∃ k,v = .int k (l.getD 0):=fun v hv=>by obtain ⟨k,hk,_⟩:=bl2 v hv;exact ⟨k,hk⟩
  have f2:lo.map a.eval=none→l.getD 0=0:=fun hv=>by
   have:lo=none:=by simpa using hv
   rw [bl1.2 this];rfl
  have f3 : ∀ v,hi.map a.eval=some v → ∃ k,v = .int k (h.getD n):=fun v hv=>by obtain ⟨k,hk,hk2⟩:=bh2 v hv;rw [hk2] at hk ⊢; exact ⟨k,hk⟩
  have f4:hi.map a.eval=none→h.getD n=(n:Int):=fun hv=>by
   have:hi=none:=by simpa using hv
   rw [bh1.2 this];rfl
  have f5 : ∀ v,mx.map a.eval=some v → ∃ k,v = .int k (mm.getD cap):=fun v hv=>by obtain ⟨k,hk,hk2⟩:=bm2 v hv;rw [hk2] at hk ⊢; exact ⟨k,hk⟩
  have f6:mx.map a.eval=none→mm.getD cap=(cap:Int):=fun hv=>by
   have:mx=none:=by simpa using hv
   rw [bm1.2 this];rfl
  have f7:mx.map a.eval≠none→hi.map a.eval≠none:=fun hm hh=>by
   have h1:hi=none:=by simpa using hh
   have h2:mx≠none:=fun e=>hm (by simp [e])
   rcases c5 with c5|c5
   ·exact h2 (bm1.1 c5)
   ·exact c5 (bh1.2 h1)
  have f8:h.getD n≤mm.getD (cap:Int):=by
   cases hmm:mm with
   | none=>rw [hmm] at c3;simp at c3 ⊢; omega
   | some q=>rw [hmm] at c3;simpa using c3
  have f9:mm.getD (cap:Int)≤cap:=by
   cases hmm:mm with
   | none=>simp
   | some q=>rw [hmm] at c4;simp at c4 ⊢; omega
  have:=mD (P:=P) w t e n0 hu hn0 ad n cap hcap (lo.map a.eval) (hi.map a.eval) (mx.map a.eval) (l.getD 0) (h.getD n) (mm.getD cap) f1 f2 f3 f4 f5 f6 f7 c1 c2 f8 f9
  simp [execOp,ho,ev,this]
 have mge : ∀ cap:Nat,n≤cap→mm.getD n≤mm.getD (cap:Int)∧mm.getD (cap:Int)≤cap:=fun cap hc=>by
  cases hmm:mm with
  | none=>simp;omega
  | some q=>rw [hmm] at c4;simp at c4 ⊢; omega
 split at hs
 ·rename_i b i n' hxe
  split at hs
  case h_2=>cases hs
  rename_i kk hkk
  split at hs
  case isFalse=>cases hs
  rename_i hsz
  cases hs
  rw [hxe] at hx hn
  simp only [alen,Option.some.injEq] at hn
  subst hn
  have hb:hh b = .live kk:=hrd (b,.live kk) (by rw [hsl b i _ kk hxe hkk];simp)
  obtain ⟨off,cap,e1,h1,h2,h3,h4,h5⟩:=R.sl_inv rel hb hx
  have mg:=mge cap h2
  refine ⟨_,run _ cap h2 e1,?_⟩
  have key:=R.sl (m:=m) (h:=hh) (w:=w) b (i + (l.getD 0).toNat) (h.getD n' - l.getD 0).toNat kk hb (if ((mm.getD cap:Int)).toNat=(l.getD 0).toNat then off else off + (l.getD 0).toNat * n0) (mm.getD (cap:Nat) - l.getD 0).toNat
   (by omega) (by omega) (by omega) (fun hc=>by
    have hcc:cap≠0:=by omega
    rw [if_neg (by omega),h4 hcc, ← hsz,Nat.add_mul,Nat.add_assoc]) (fun cur e f hcur hc=>by
    have hcc:cap≠0:=by omega
    have:=h5 cur e f hcur hcc
    have hle:i + (l.getD 0).toNat + (mm.getD (cap:Nat) - l.getD 0).toNat≤i + cap:=by omega
    have:=Nat.mul_le_mul_right kk.sz hle
    omega)
  have e2:(if ((mm.getD cap:Int)).toNat=(l.getD 0).toNat then (some ⟨(m.pl b).1,off,none⟩:Option Addr) else (some ⟨(m.pl b).1,off,none⟩:Option Addr).map (·.add ((l.getD 0).toNat * n0))) =
   some ⟨(m.pl b).1,if ((mm.getD cap:Int)).toNat=(l.getD 0).toNat then off else off + (l.getD 0).toNat * n0,none⟩:=by
   split<;>simp [bo]
  rw [e2]
  exact key
 ·rename_i r sz rows hxe
  split at hs
  case isFalse=>cases hs
  rename_i hsz
  cases hs
  rw [hxe] at hx hn hl
  simp only [alen,Option.some.injEq] at hn
  obtain ⟨kd,hk,rfl⟩:=eP hl
  have hi:(hh r).imm:=by rw [hrd (r,kd) (by simp)];exact hk
  rcases R.list_inv hi hx with ⟨h1,h2⟩|⟨h1,a0,cap,h2,h3⟩|⟨g,off,cap,e1,hg,h2,h3,h4,f,hf,hRR⟩
  ·subst h1
   simp at hn
   subst hn
   refine ⟨_,run _ 0 (by omega) h2,?_⟩
   have z1:l.getD 0=0:=by simp at c2 c3 c4;omega
   have z2:h.getD ((0:Nat):Int)=0:=by simp at c2 c3 c4 ⊢; omega
   have z3:mm.getD ((0:Nat):Int)=0:=by simp at c2 c3 c4 ⊢; omega
   simp only [z1,z2,z3]
   simpa using R.nil (m:=m) (h:=hh) (w:=w) r sz
  ·subst h1
   simp at hn
   subst hn
   have mg:=mge cap (Nat.zero_le _)
   refine ⟨_,run _ cap (Nat.zero_le _) h2,?_⟩
   have z1:l.getD 0=0:=by simp at c2 c3 c4;omega
   have z2:h.getD ((0:Nat):Int)=0:=by simp at c2 c3 c4 ⊢; omega
   have e2:(if ((mm.getD cap:Int)).toNat=(l.getD 0).toNat then (some a0:Option Addr) else (some a0:Option Addr).map (·.add ((l.getD 0).toNat * n0))) =
    some (if ((mm.getD cap:Int)).toNat=(l.getD 0).toNat then a0 else a0.add ((l.getD 0).toNat * n0)):=by
    split<;>rfl
   rw [e2]
   have key:=R.emp (m:=m) (h:=hh) (w:=w) r sz (mm.getD (cap:Nat) - l.getD 0).toNat (if ((mm.getD cap:Int)).toNat=(l.getD 0).toNat then a0 else a0.add ((l.getD 0).toNat * n0)) hi (by omega)
   simp only [List.drop_nil,List.take_nil]
   rw [show (h.getD ((0:Nat):Int) - l.getD 0).toNat=0 by omega]
   exact key
  ·have hn' : n=rows.length:=hn.symm
   subst hn'
   have mg:=mge cap h2
   refine ⟨_,run _ cap h2 e1,?_⟩
   have e2:(if ((mm.getD cap:Int)).toNat=(l.getD 0).toNat then (some ⟨g,off,none⟩:Option Addr) else (some ⟨g,off,none⟩:Option Addr).map (·.add ((l.getD 0).toNat * n0))) =
    some ⟨g,if ((mm.getD cap:Int)).toNat=(l.getD 0).toNat then off else off + (l.getD 0).toNat * n0,none⟩:=by
    split<;>simp [bo]
   rw [e2]
   have hlen:((rows.drop (l.getD 0).toNat).take (h.getD rows.length - l.getD 0).toNat).length=(h.getD rows.length - l.getD 0).toNat:=by
    rw [List.length_take,List.length_drop];omega
   have hget : ∀ (i:Nat) (row:List AV),((rows.drop (l.getD 0).toNat).take (h.getD rows.length - l.getD 0).toNat)[i]?=some row→rows[(l.getD 0).toNat + i]?=some row∧i < (h.getD rows.length - l.getD 0).toNat:=fun i row hi=>by
    rw [List.getElem?_take] at hi
    split at hi
    ·rw [List.getElem?_drop] at hi;exact ⟨hi,by assumption⟩
    ·cases hi
   have key:=R.list (m:=m) (h:=hh) (w:=w) r sz ((rows.drop (l.getD 0).toNat).take (h.getD rows.length - l.getD 0).toNat) hi g (if ((mm.getD cap:Int)).toNat=(l.getD 0).toNat then off else off + (l.getD 0).toNat * n0) (mm.getD (cap:Nat) - l.getD 0).toNat hg
    (by rw [hlen];omega) (by omega) (fun row hrow=>h4 row (List.mem_of_mem_drop (List.mem_of_mem_take hrow))) (fun i j=>f ((l.getD 0).toNat + i) j)
    (fun i j row c hi2 hj=>by
     obtain ⟨hi3,hlt⟩:=hget i row hi2
     rw [if_neg (by omega), ← hf ((l.getD 0).toNat + i) j row c hi3 hj, ← hsz,Nat.add_mul]
     congr 2;omega)
    (fun i j row c hi2 hj=>hRR _ j row c (hget i row hi2).1 hj)
   rw [hlen] at key
   exact key
 ·rename_i r sz rows hxe
  split at hs
  case isFalse=>cases hs
  rename_i hsz
  cases hs
  rw [hxe] at hx hn hl
  simp only [alen,Option.some.injEq] at hn
  obtain ⟨kd,hk,rfl⟩:=el hl
  have hi:(hh r).imm:=by rw [hrd (r,kd) (by simp)];exact hk
  rcases R.list_inv hi hx.g2l with ⟨h1,h2⟩|⟨h1,a0,cap,h2,h3⟩|⟨g,off,cap,e1,hg,h2,h3,h4,f,hf,hRR⟩
  ·subst h1
   simp at hn
   subst hn
   refine ⟨_,run _ 0 (by omega) h2,?_⟩
   have z1:l.getD 0=0:=by simp at c2 c3 c4;omega
   have z2:h.getD ((0:Nat):Int)=0:=by simp at c2 c3 c4 ⊢; omega
   have z3:mm.getD ((0:Nat):Int)=0:=by simp at c2 c3 c4 ⊢; omega
   simp only [z1,z2,z3]
   simpa using R.nil (m:=m) (h:=hh) (w:=w) r sz
  ·subst h1
   simp at hn
   subst hn
   have mg:=mge cap (Nat.zero_le _)
   refine ⟨_,run _ cap (Nat.zero_le _) h2,?_⟩
   have z1:l.getD 0=0:=by simp at c2 c3 c4;omega
   have z2:h.getD ((0:Nat):Int)=0:=by simp at c2 c3 c4 ⊢; omega
   have e2:(if ((mm.getD cap:Int)).toNat=(l.getD 0).toNat then (some a0:Option Addr) else (some a0:Option Addr).map (·.add ((l.getD 0).toNat * n0))) =
    some (if ((mm.getD cap:Int)).toNat=(l.getD 0).toNat then a0 else a0.add ((l.getD 0).toNat * n0)):=by
    split<;>rfl
   rw [e2]
   have key:=R.emp (m:=m) (h:=hh) (w:=w) r sz (mm.getD (cap:Nat) - l.getD 0).toNat (if ((mm.getD cap:Int)).toNat=(l.getD 0).toNat then a0 else a0.add ((l.getD 0).toNat * n0)) hi (by omega)
   simp only [List.drop_nil,List.take_nil]
   rw [show (h.getD ((0:Nat):Int) - l.getD 0).toNat=0 by omega]
   exact key
  ·have hn' : n=rows.length:=hn.symm
   subst hn'
   have mg:=mge cap h2
   refine ⟨_,run _ cap h2 e1,?_⟩
   have e2:(if ((mm.getD cap:Int)).toNat=(l.getD 0).toNat then (some ⟨g,off,none⟩:Option Addr) else (some ⟨g,off,none⟩:Option Addr).map (·.add ((l.getD 0).toNat * n0))) =
    some ⟨g,if ((mm.getD cap:Int)).toNat=(l.getD 0).toNat then off else off + (l.getD 0).toNat * n0,none⟩:=by
    split<;>simp [bo]
   rw [e2]
   have hlen:((rows.drop (l.getD 0).toNat).take (h.getD rows.length - l.getD 0).toNat).length=(h.getD rows.length - l.getD 0).toNat:=by
    rw [List.length_take,List.length_drop];omega
   have hget : ∀ (i:Nat) (row:List AV),((rows.drop (l.getD 0).toNat).take (h.getD rows.length - l.getD 0).toNat)[i]?=some row→rows[(l.getD 0).toNat + i]?=some row∧i < (h.getD rows.length - l.getD 0).toNat:=fun i row hi=>by
    rw [List.getElem?_take] at hi
    split at hi
    ·rw [List.getElem?_drop] at hi;exact ⟨hi,by assumption⟩
    ·cases hi
   have key:=R.list (m:=m) (h:=hh) (w:=w) r sz ((rows.drop (l.getD 0).toNat).take (h.getD rows.length - l.getD 0).toNat) hi g (if ((mm.getD cap:Int)).toNat=(l.getD 0).toNat then off else off + (l.getD 0).toNat * n0) (mm.getD (cap:Nat) - l.getD 0).toNat hg
    (by rw [hlen];omega) (by omega) (fun row hrow=>h4 row (List.mem_of_mem_drop (List.mem_of_mem_take hrow))) (fun i j=>f ((l.getD 0).toNat + i) j)
    (fun i j row c hi2 hj=>by
     obtain ⟨hi3,hlt⟩:=hget i row hi2
     rw [if_neg (by omega), ← hf ((l.getD 0).toNat + i) j row c hi3 hj, ← hsz,Nat.add_mul]
     congr 2;omega)
    (fun i j row c hi2 hj=>hRR _ j row c (hget i row hi2).1 hj)
   rw [hlen] at key
   exact key
 ·rename_i hxe
  cases hs
  rw [hxe] at hx hn
  simp only [alen,Option.some.injEq] at hn
  subst hn
  refine ⟨_,run none 0 (by omega) hx.val_inv,?_⟩
  have z1:l.getD 0=0:=by simp at c2 c3 c4;omega
  have z2:h.getD ((0:Nat):Int)=0:=by simp at c2 c3 c4 ⊢; omega
  have z3:mm.getD ((0:Nat):Int)=0:=by simp at c2 c3 c4 ⊢; omega
  simp only [z1,z2,z3]
  simpa using R.val (m:=m) (h:=hh) (w:=w) (.slice none 0 0)
 ·cases hs
end
section
variable {P:Program}
@[go_sem] def arows (look:Nat→Own):AV→Option (Nat × List (List AV))
  | .list r sz rows=>some (sz,rows)
  | .glist r sz rows=>some (sz,rows)
  | .sl b i n=>match look b with | .live k=>some (k.sz,(k.rows.drop i).take n)|_=>none
  | _=>none
theorem g9 {sz:Nat} : ∀ (rows:List (List AV)),(∀ row,row∈rows→row.length=sz) → ∀ q c,rows.flatten[q]?=some c→0 < sz → ∃ row,rows[q / sz]?=some row∧row[q % sz]?=some c
 | [],_,q,c,h,_=>by simp at h
 | row::rows,hw,q,c,h,hz=>by
   have hl:row.length=sz:=hw row (by simp)
   rw [List.flatten_cons] at h
   by_cases hq:q < sz
   ·rw [List.getElem?_append_left (by omega)] at h
    exact ⟨row,by rw [Nat.div_eq_of_lt hq];rfl,by rw [Nat.mod_eq_of_lt hq];exact h⟩
   ·rw [List.getElem?_append_right (by omega),hl] at h
    obtain ⟨row', h1,h2⟩:=g9 rows (fun r hr=>hw r (by simp [hr])) (q - sz) c h hz
    have e:q=(q - sz) + sz:=by omega
    refine ⟨row', ?_,?_⟩
    ·rw [e,Nat.add_div_right _ hz];simpa using h1
    ·rw [e,Nat.add_mod_right];exact h2
theorem dC {sz:Nat} : ∀ (rows:List (List AV)),(∀ row,row∈rows→row.length=sz)→rows.flatten.length=rows.length * sz
 | [],_=>by simp
 | row::rows,hw=>by
   rw [List.flatten_cons,List.length_append,dC rows (fun r hr=>hw r (by simp [hr])),hw row (by simp),List.length_cons,Nat.add_mul,Nat.one_mul,Nat.add_comm]
theorem nT {sz:Nat} : ∀ (rows:List (List AV)),(∀ row,row∈rows→row.length=sz) → ∀ i j row c,rows[i]?=some row→row[j]?=some c→rows.flatten[i * sz + j]?=some c
 | [],_,i,j,row,c,h,_=>by simp at h
 | r0::rows,hw,i,j,row,c,h1,h2=>by
   have hl:r0.length=sz:=hw r0 (by simp)
   rw [List.flatten_cons]
   cases i with
   | zero =>
     simp at h1;subst h1
     rw [List.getElem?_append_left (by have:=(List.getElem?_eq_some_iff.1 h2).1;omega)]
     simpa using h2
   | succ i =>
     rw [List.getElem?_append_right (by rw [hl,Nat.add_mul];omega),hl]
     have:=nT rows (fun r hr=>hw r (by simp [hr])) i j row c (by simpa using h1) h2
     rw [show (i + 1) * sz + j - sz=i * sz + j by rw [Nat.add_mul];omega]
     exact this
theorem iL {m:Nm} {h:Hp} {w:World} {look:Nat→Own} {x:AV} {sz:Nat} {rows:List (List AV)} {v:Value} {rd:List (Nat × Own)} (rel:Rel m h w) (hx:arows look x=some (sz,rows)) (hl:alive look x=some rd) (hrd : ∀ p∈rd,h p.1=p.2)
 (hR:R m h w x v) (hz:0 < sz):(∀ row,row∈rows→row.length=sz)∧((rows=[]∧v = .slice none 0 0) ∨ ∃ ad cap,v = .slice (some ad) rows.length cap∧rows.length≤maxLen ∧ ∃ news:List Value,news.length=rows.length * sz ∧
  (∀ j u,news[j]?=some u→w.cell? (ad.add j)=some u) ∧ ∀ (q:Nat) (c:AV) (u:Value),rows.flatten[q]?=some c→news[q]?=some u→R m h w c u):=by
 have build : ∀ (g off cap:Nat) (ad:Addr),(∀ row,row∈rows→row.length=sz)→ad=⟨g,off,none⟩→(∀ (i j:Nat) (row:List AV) (c:AV),rows[i]?=some row→row[j]?=some c → ∃ v,w.cell? ⟨g,off + i * sz + j,none⟩=some v∧R m h w c v) →
  ∃ news:List Value,news.length=rows.length * sz∧(∀ j u,news[j]?=some u→w.cell? (ad.add j)=some u) ∧ ∀ (q:Nat) (c:AV) (u:Value),rows.flatten[q]?=some c→news[q]?=some u→R m h w c u:=by
  intro g off cap ad hw had hc
  subst had
  have fl:=dC rows hw
  obtain ⟨vs,h1,h2⟩:=fd (p:=fun q v=>w.cell? ⟨g,off + q,none⟩=some v ∧ ∀ c,rows.flatten[q]?=some c→R m h w c v) (rows.length * sz) (fun q hq=>by
   have hq' : q < rows.flatten.length:=by omega
   obtain ⟨row,r1,r2⟩:=g9 rows hw q _ (List.getElem?_eq_getElem hq') hz
   obtain ⟨v,r3,r4⟩:=hc _ _ row _ r1 r2
   have e:q / sz * sz + q % sz=q:=by rw [Nat.mul_comm];exact Nat.div_add_mod q sz
   refine ⟨v,by rw [← r3,Nat.add_assoc,e],fun c hcc=>?_⟩
   rw [List.getElem?_eq_getElem hq'] at hcc
   cases hcc
   exact r4)
  exact ⟨vs,h1,fun j u hj=>by rw [bo];exact (h2 j u hj).1,fun q c u hc hu=>(h2 q u hu).2 c hc⟩
 cases x<;>simp only [arows,reduceCtorEq] at hx
 case list r sz' rows' =>
  cases hx
  obtain ⟨kd,hk,rfl⟩:=eP hl
  have hi:(h r).imm:=by rw [hrd (r,kd) (by simp)];exact hk
  rcases R.list_inv hi hR with ⟨h1,h2⟩|⟨h1,a,cap,h2,h3⟩|⟨g,off,cap,e1,hg,h2,h3,h4,f,hf,hRR⟩
  ·exact ⟨by rw [h1];simp,.inl ⟨h1,h2⟩⟩
  ·subst h1
   exact ⟨by simp,.inr ⟨a,cap,h2,Nat.zero_le _,[],by simp,by simp,by simp⟩⟩
  ·exact ⟨h4,.inr ⟨_,cap,e1,by omega,build g off cap _ h4 rfl fun i j row c a b=>⟨_,hf i j row c a b,hRR i j row c a b⟩⟩⟩
 case glist r sz' rows' =>
  cases hx
  obtain ⟨kd,hk,rfl⟩:=el hl
  have hi:(h r).imm:=by rw [hrd (r,kd) (by simp)];exact hk
  rcases R.list_inv hi hR.g2l with ⟨h1,h2⟩|⟨h1,a,cap,h2,h3⟩|⟨g,off,cap,e1,hg,h2,h3,h4,f,hf,hRR⟩
  ·exact ⟨by rw [h1];simp,.inl ⟨h1,h2⟩⟩
  ·subst h1
   exact ⟨by simp,.inr ⟨a,cap,h2,Nat.zero_le _,[],by simp,by simp,by simp⟩⟩
  ·exact ⟨h4,.inr ⟨_,cap,e1,by omega,build g off cap _ h4 rfl fun i j row c a b=>⟨_,hf i j row c a b,hRR i j row c a b⟩⟩⟩
 case sl b i n =>
  split at hx
  ·rename_i k hk
   cases hx
   have e0:rd=[(b,.live k)]:=by simp only [alive,hk,Option.some.injEq] at hl;exact hl.symm
   have hb:h b = .live k:=hrd (b,.live k) (by rw [e0];simp)
   obtain ⟨off,cap,e1,h1,h2,h3,h4,h5⟩:=R.sl_inv rel hb hR
   obtain ⟨cur,hcur,hsz,hrows,hcells⟩:=rel.own b k hb
   have hlen:((k.rows.drop i).take n).length=n:=by rw [List.length_take,List.length_drop];omega
   have hmem : ∀ row,row∈(k.rows.drop i).take n→row.length=k.sz:=fun row hr=>hrows row (List.mem_of_mem_drop (List.mem_of_mem_take hr))
   refine ⟨hmem,.inr ⟨_,cap,by rw [hlen];exact e1,by rw [hlen];omega,?_⟩⟩
   by_cases hn:n=0
   ·subst hn
    exact ⟨[],by simp,by simp,by simp⟩
   ·have:=h4 (by omega)
    subst this
    refine build _ _ cap _ hmem rfl fun i' j row c a b=>?_
    rw [List.getElem?_take] at a
    split at a
    ·rw [List.getElem?_drop] at a
     obtain ⟨v,p1,p2⟩:=hcells (i + i') j row c a b
     exact ⟨v,by simp only [World.cell?,hcur];rw [← p1];simp [Nat.add_mul,Nat.add_assoc],p2⟩
    ·cases a
  ·cases hx
theorem my (w:World) (t t2 ty e:TypeId) (i:TypeInfo) (ht:P.underlying t=some (.slice e)) (ht2:P.underlying t2=some (.slice e)) (hi:P.info? e=some i)
 (g o sLen sCap:Nat) (cur:Array Value) (hg:w.heap[g]?=some (.cells cur e (0,0)))
 (a:Addr) (m c:Nat) (news:List Value) (hl:news.length=m * i.size) (hnews : ∀ j u,news[j]?=some u→w.cell? (a.add j)=some u) (h1 : ∀ u∈news,u.oneCell' = true)
 (hroom:sLen + m≤sCap) (hfit:o + sLen * i.size + news.length≤cur.size) :
 (Builtin.append_ #[t,t2] ty #[.slice (some ⟨g,o,none⟩) sLen sCap,.slice (some a) m c]).run P w =
  .ok (.slice (some ⟨g,o,none⟩) (sLen + m) sCap) (w.setRow g (cur.toList.take (o + sLen * i.size) ++ news ++ cur.toList.drop (o + sLen * i.size + news.length)).toArray):=by
 have hf:=run_firstCells_some (P:=P) w i.size m a m c news hl hnews
 have hst:=run_storeCells_at P g (o + sLen * i.size) e news 0 cur w hg (by simpa using hfit) h1
 simp only [Nat.add_zero] at hst
 simp [Builtin.append_,run_underlying ht,run_underlying ht2,sizeOf,typeInfo,hi,Builtin.lenOf,hroom,hf,bo,hst]
theorem Rel.kill {m:Nm} {h:Hp} {w:World} (rel:Rel m h w) (b:Nat) (hb:h b ≠ .unused):Rel m (h.upd b .dead) w∧Ev m h w m (h.upd b .dead) w:=by
 have hup : ∀ x,x≠b→(h.upd b .dead) x=h x:=fun x hx=>Hp.upd_ne h _ hx
 have liv : ∀ x k,(h.upd b .dead) x = .live k→h x = .live k:=fun x k hx=>by
  by_cases e:x=b
  ·subst e;rw [Hp.upd_same] at hx;cases hx
  ·rw [hup x e] at hx;exact hx
 have im : ∀ r,((h.upd b .dead) r).imm→(h r).imm∧r≠b:=fun r hr=>by
  have:r≠b:=by rintro rfl;rw [Hp.upd_same] at hr;exact hr
  exact ⟨by rw [← hup r this];exact hr,this⟩
 have ev:Ev m h w m (h.upd b .dead) w:=by
  refine ⟨fun _ _=>rfl,fun _ _=>rfl,fun x=>?_,Nat.le_refl _,fun x k k' _ _ cur e f hc=>⟨cur,e,f,hc,rfl⟩,fun _ _ _ _=>rfl,fun x k h1 h2=>?_,fun r g h1 h2=>?_,rfl,rfl,rfl⟩
  ·by_cases e:x=b
   ·subst e;rw [Hp.upd_same];cases hh:h x<;>simp [Own.goes]
   ·rw [hup x e];exact Own.goes_refl _
  ·rw [liv x k h2] at h1;cases h1
  ·have:=im r (by rw [h2];trivial)
   rw [hup r this.2,h1] at h2;cases h2
 refine ⟨⟨fun x k hx=>?_,fun x y k1 k2 h1 h2=>rel.sep x y k1 k2 (liv x k1 h1) (liv y k2 h2),fun x k r h1 hr=>rel.sepR x k r (liv x k h1) (im r hr).1,fun r r' g hr hr' => ?_,fun r g hr=>rel.bound r g (im r hr).1,fun r g hr=>?_⟩,ev⟩
 ·obtain ⟨cur,a,b', c,d⟩:=rel.own x k (liv x k hx)
  exact ⟨cur,a,b', c,fun i j row cc p q=>let ⟨v,y,z⟩:=d i j row cc p q;⟨v,y,z.mono rel ev⟩⟩
 ·have h1:=im r (by rw [hr];trivial)
  rw [hup r h1.2] at hr
  exact rel.sepU r r' g hr (im r' hr').1
 ·have h1:=im r (by rw [hr];trivial)
  rw [hup r h1.2] at hr
  exact rel.free r g hr
@[go_sem] def aappend (P:Program) (t:TypeId) (x y:AV) (look:Nat→Own) (fresh:Nat) (rdy:List (Nat × Own)):Option Res :=
  match bw P t with
  | some e =>
    match aY P e,en P e,dA P e,arows look y with
    | some n0,some nb,some z,some (sz,new) =>
      if sz=n0∧0 < n0∧0 < nb∧z.length=n0∧new.all (fun r=>r.all AV.one)=true then
       match x with
       | .val (.slice none 0 0) =>
         if new.length≠0∧new.length * nb≤140737488355328 then some ⟨.sl fresh 0 new.length,(fresh,.unused)::rdy,[(fresh,.live ⟨n0,e,new⟩)]⟩ else none
       | .sl b i n =>
         match look b with
         | .live k =>
           if k.sz=n0∧k.elem=e∧i + n=k.rows.length∧k.rows.all (fun r=>r.all AV.one)=true∧(n + new.length) * nb≤140737488355328 then
            some ⟨.sl fresh 0 (n + new.length),(b,.live k)::(fresh,.unused)::rdy,[(b,.dead),(fresh,.live ⟨n0,e,k.rows.drop i ++ new⟩)]⟩
           else none
         | _=>none
       | _=>none
      else none
    | _,_,_,_=>none
  | none=>none
theorem mb {m:Nm} {h:Hp} {w:World} {rows:List (List AV)} {news:List Value} (hl:news.length=rows.flatten.length) (ha:rows.all (fun r=>r.all AV.one)=true)
 (hR : ∀ (q:Nat) (c:AV) (u:Value),rows.flatten[q]?=some c→news[q]?=some u→R m h w c u) : ∀ u∈news,u.oneCell' = true:=by
 intro u hu
 obtain ⟨q,hq⟩:=List.getElem?_of_mem hu
 have hlt:q < rows.flatten.length:=by
  have:=(List.getElem?_eq_some_iff.1 hq).1
  omega
 refine (hR q _ u (List.getElem?_eq_getElem hlt) hq).one ?_
 have hm:=List.getElem_mem hlt
 rw [List.mem_flatten] at hm
 obtain ⟨r,hr,hc⟩:=hm
 exact List.all_eq_true.1 (List.all_eq_true.1 ha r hr) _ hc
theorem lG {e:TypeId} {n0 nb:Nat} {z:List Value} (h1:aY P e=some n0) (h2:en P e=some nb) (h3:dA P e=some z) : ∃ i z0,P.info? e=some i∧i.size=n0∧i.bytes=nb∧i.zero=some z0∧z0.cells.size=z.length:=by
 simp only [aY,en,dA,Option.map_eq_some_iff,Option.bind_eq_some_iff] at h1 h2 h3
 obtain ⟨i,hi,a⟩:=h1
 obtain ⟨i2,hi2,b⟩:=h2
 obtain ⟨i3,hi3,z0,hz0,c⟩:=h3
 rw [hi] at hi2 hi3
 cases hi2;cases hi3
 exact ⟨i,z0,hi,a,b,hz0,by rw [← c];simp⟩
theorem du {m:Nm} {h:Hp} {w:World} {rows:List (List AV)} {n0:Nat} (hw : ∀ row,row∈rows→row.length=n0) {news:List Value} (hl:news.length=rows.length * n0) (hR : ∀ (q:Nat) (c:AV) (u:Value),rows.flatten[q]?=some c→news[q]?=some u→R m h w c u)
 (arr:Array Value) (off:Nat) (harr : ∀ q u,news[q]?=some u→arr[off + q]?=some u) : ∀ (i j:Nat) (row:List AV) (c:AV),rows[i]?=some row→row[j]?=some c → ∃ v,arr[off + i * n0 + j]?=some v∧R m h w c v:=by
 intro i j row c h1 h2
 have hf:=nT rows hw i j row c h1 h2
 have hlt:=(List.getElem?_eq_some_iff.1 hf).1
 rw [dC rows hw, ← hl] at hlt
 exact ⟨news[i * n0 + j],by rw [Nat.add_assoc];exact harr _ _ (List.getElem?_eq_getElem hlt),hR _ c _ hf (List.getElem?_eq_getElem hlt)⟩
theorem qk {s:List AV} {o:Oper} {t:TypeId} {x y:Operand} (ho:o.op = .call { callee := .builtin .append,args := #[x,y],argTypes := #[t,t] }) {look:Nat→Own} {fresh:Nat} {rdy:List (Nat × Own)} {r:Res}
 (hl:alive look (ae s y)=some rdy) (h:aappend P t (ae s x) (ae s y) look fresh rdy=some r):OpL P o s r:=by
 unfold aappend at h
 split at h
 case h_2=>cases h
 rename_i e he
 have hu:=di he
 split at h
 case h_2=>cases h
 rename_i n0 nb z sz new hn hnb hz hrows
 split at h
 case isFalse=>cases h
 rename_i hcond
 obtain ⟨c1,c2,c3,c4,c5⟩:=hcond
 subst c1
 obtain ⟨inf,z0,hinf,i1,i2,i3,i4⟩:=lG hn hnb hz
 have exec : ∀ (a:Act) (v1 v2:Value) (w w' : World) (v:Value),a.eval x=v1→a.eval y=v2→(Builtin.append_ #[t,t] o.type #[v1,v2]).run P w = .ok v w' → (execOp a.eval o).run P w = .ok (.value v) w' := by
  intro a v1 v2 w w' v e1 e2 hr
  simp [execOp,ho,resolve,invoke,builtin,e1,e2,hr]
 split at h
 ·rename_i hxe
  split at h
  case isFalse=>cases h
  rename_i hc2
  obtain ⟨d1,d2⟩:=hc2
  cases h
  intro h hrd m w a rel hop
  have hx:=hop x (by simp [ho,Op.operands,Call.operands])
  have hy:=hop y (by simp [ho,Op.operands,Call.operands])
  rw [hxe] at hx
  have ex:=hx.val_inv
  have hfr:h fresh = .unused:=hrd (fresh,.unused) (by simp)
  obtain ⟨hw,hcase⟩:=iL rel hrows hl (fun p hp=>hrd p (by simp [hp])) hy c2
  rcases hcase with ⟨e1,_⟩|⟨ad,cap,e1,hmx,news,n1,n2,n3⟩
  ·rw [e1] at d1;simp at d1
  ·have hb:new.length * inf.bytes≤281474976710656:=by rw [i2];omega
   have h63:(new.length:Int)≤9223372036854775807:=by
    have:new.length≤140737488355328:=Nat.le_trans (Nat.le_mul_of_pos_right _ c3) d2
    omega
   have hrun:=run_append_nil (P:=P) w t o.type e inf z0 hu hinf i3 ad new.length cap news (by rw [i1];exact n1) n2 (by omega) h63 hb
   have hge:=grownCap_ge w new.length 0 e
   have hcm:grownCap w new.length 0 e≤maxLen:=grownCap_le_maxLen w _ 0 e (by simp only [maxLen];omega)
   generalize hgc:grownCap w new.length 0 e=gc at *
   have csz:(news.toArray ++ Builtin.zeroCells z0.cells (gc - new.length)).size=gc * sz:=by
    simp only [Array.size_append,List.size_toArray,size_zeroCells,i4,c4,n1, ← Nat.add_mul]
    congr 1;omega
   have A:=rel.alloc (w' := w.drew.alloc (.cells (news.toArray ++ Builtin.zeroCells z0.cells (gc - new.length)) e)) hfr ⟨sz,e,new⟩ _ rfl rfl rfl rfl (by rw [csz];exact Nat.mul_le_mul_right _ hge) hw (by
    have:=du hw n1 n3 (news.toArray ++ Builtin.zeroCells z0.cells (gc - new.length)) 0 (fun q u hq=>by
     rw [Nat.zero_add,Array.getElem?_append_left (by simpa using (List.getElem?_eq_some_iff.1 hq).1)];simpa using hq)
    simpa using this)
   refine ⟨_,_,_,_,exec a _ _ w _ _ ex e1 hrun,.inl rfl,A.1,A.2,?_⟩
   have key:=R.sl (m:=m.at fresh (w.heap.size,0)) (h:=h.upd fresh (.live ⟨sz,e,new⟩)) (w:=w.drew.alloc (.cells (news.toArray ++ Builtin.zeroCells z0.cells (gc - new.length)) e)) fresh 0 new.length ⟨sz,e,new⟩ (Hp.upd_same _ _ _) 0 gc (by simp) hge hcm (by simp [Nm.at_same])
    (fun cur e' f hc _=>by
     rw [Nm.at_same] at hc
     change (w.drew.alloc _).heap[w.drew.heap.size]?=_ at hc
     rw [heap_alloc_new] at hc
     cases hc
     rw [Nm.at_same,csz];simp)
   rw [Nm.at_same] at key
   exact key
 ·rename_i b i n hxe
  split at h
  case h_2=>cases h
  rename_i k hk
  split at h
  case isFalse=>cases h
  rename_i hc2
  obtain ⟨d1,d2,d3,d5,d4⟩:=hc2
  cases h
  intro h hrd m w a rel hop
  have hx:=hop x (by simp [ho,Op.operands,Call.operands])
  have hy:=hop y (by simp [ho,Op.operands,Call.operands])
  rw [hxe] at hx
  have hb:h b = .live k:=hrd (b,.live k) (by simp)
  have hfr:h fresh = .unused:=hrd (fresh,.unused) (by simp)
  have hbf:b≠fresh:=by rintro rfl;rw [hb] at hfr;cases hfr
  obtain ⟨hw,hcase⟩:=iL rel hrows hl (fun p hp=>hrd p (by simp [hp])) hy c2
  obtain ⟨off,cap,ex,g1,g2,g3,g4,g5⟩:=R.sl_inv rel hb hx
  obtain ⟨cur,hcur,hcsz,hkrows,hkcells⟩:=rel.own b k hb
  have hdl:(k.rows.drop i).length=n:=by rw [List.length_drop];omega
  have hdw : ∀ row,row∈k.rows.drop i→row.length=sz:=fun row hr=>by rw [← d1];exact hkrows row (List.mem_of_mem_drop hr)
  have hnw : ∀ row,row∈k.rows.drop i ++ new→row.length=sz:=fun row hr=>by
   rcases List.mem_append.1 hr with hr|hr
   ·exact hdw row hr
   ·exact hw row hr
  have upds:h.upds [(b,.dead),(fresh,.live ⟨sz,e,k.rows.drop i ++ new⟩)]=(h.upd b .dead).upd fresh (.live ⟨sz,e,k.rows.drop i ++ new⟩):=rfl
  have fhp:((h.upd b .dead).upd fresh (.live ⟨sz,e,k.rows.drop i ++ new⟩)) fresh = .live ⟨sz,e,k.rows.drop i ++ new⟩:=Hp.upd_same _ _ _
  -- the old cells,as they lie
  have olds : ∀ (i' j:Nat) (row:List AV) (c:AV),(k.rows.drop i)[i']?=some row→row[j]?=some c → ∃ v,cur[(m.pl b).2 + i * sz + i' * sz + j]?=some v∧R m h w c v:=fun i' j row c p q=>by
   rw [List.getElem?_drop] at p
   obtain ⟨v,v1,v2⟩:=hkcells (i + i') j row c p q
   exact ⟨v,by rw [← v1,d1,Nat.add_mul, ← Nat.add_assoc],v2⟩
  -- nothing is appended,or there is room for it: the same block
  have inplace : ∀ (cur' : Array Value) (w' : World),w'.heap[(m.pl b).1]?=some (.cells cur' k.elem (0,0))→cur'.size=cur.size→w'.heap.size=w.heap.size→(∀ g,g≠(m.pl b).1→w'.heap[g]?=w.heap[g]?)→w'.os=w.os→w'.tape=w.tape→w'.output=w.output →
   (execOp a.eval o).run P w = .ok (.value (.slice (some ⟨(m.pl b).1,off,none⟩) (n + new.length) cap)) w' → n + new.length≤cap→(m.pl b).2 + i * sz + (n + new.length) * sz≤cur.size →
   (∀ (i' j:Nat) (row:List AV) (c:AV),(k.rows.drop i ++ new)[i']?=some row→row[j]?=some c → ∃ v,cur'[(m.pl b).2 + i * sz + i' * sz + j]?=some v∧R m h w c v) →
   ∃ nx v m' w', (execOp a.eval o).run P w = .ok nx w' ∧ (nx = .value v∨nx = .skip∧v=undef)∧Rel m' (h.upds [(b,.dead),(fresh,.live ⟨sz,e,k.rows.drop i ++ new⟩)]) w' ∧ Ev m h w m' (h.upds [(b,.dead),(fresh,.live ⟨sz,e,k.rows.drop i ++ new⟩)]) w' ∧
    R m' (h.upds [(b,.dead),(fresh,.live ⟨sz,e,k.rows.drop i ++ new⟩)]) w' (.sl fresh 0 (n + new.length)) v:=by
   intro cur' w' p1 p2 p3 p4 p5 p6 p7 hrun hle hfit hcells
   have M:=rel.move (w' := w') hb hfr ((m.pl b).2 + i * sz) cur cur' hcur ⟨sz,e,k.rows.drop i ++ new⟩ d2.symm p1 p2 p3 p4 p5 p6 p7 (by simp only [List.length_append,hdl];exact hfit) hnw hcells
   refine ⟨_,_,_,w', hrun,.inl rfl,M.1,M.2,?_⟩
   rw [upds]
   have key:=R.sl (m:=m.at fresh ((m.pl b).1,(m.pl b).2 + i * sz)) (w:=w') fresh 0 (n + new.length) _ fhp off cap (by simp only [List.length_append,hdl];omega) hle g3 (fun hc=>by rw [Nm.at_same,g4 hc,d1];simp)
    (fun cur2 e' f hc hc0=>by
     rw [Nm.at_same,p1] at hc
     cases hc
     rw [Nm.at_same,p2]
     have:=g5 cur _ _ hcur hc0
     rw [d1,Nat.add_mul] at this
     simp only [Nat.zero_add]
     omega)
   rw [Nm.at_same] at key
   exact key
  rcases hcase with ⟨e1,e2⟩|⟨ad,cap2,e2,hmx,news,n1,n2,n3⟩
  ·-- nothing: a nil source
   subst e1
   refine inplace cur w (by rw [hcur]) rfl rfl (fun _ _=>rfl) rfl rfl rfl (exec a _ _ w w _ ex e2 ?_) (by simpa using g2) ?_ (by simpa using olds)
   ·simp [Builtin.append_,run_underlying hu,sizeOf,typeInfo,hinf,Builtin.lenOf,Builtin.firstCells,g2,storeCells]
   ·have:=Nat.mul_le_mul_right sz (show i + n≤k.rows.length by omega)
    rw [Nat.add_mul] at this
    rw [d1] at hcsz
    simp;omega
  ·by_cases hroom:n + new.length≤cap
   ·by_cases hm0:new.length=0
    ·-- nothing
     have hn0:new=[]:=List.eq_nil_of_length_eq_zero hm0
     subst hn0
     have hnews:news=[]:=List.eq_nil_of_length_eq_zero (by simpa using n1)
     subst hnews
     refine inplace cur w (by rw [hcur]) rfl rfl (fun _ _=>rfl) rfl rfl rfl (exec a _ _ w w _ ex e2 ?_) hroom ?_ (by simpa using olds)
     ·simp [Builtin.append_,run_underlying hu,sizeOf,typeInfo,hinf,Builtin.lenOf,Builtin.firstCells,g2,storeCells,loadCells,loadCellsFrom]
     ·have:=Nat.mul_le_mul_right sz (show i + n≤k.rows.length by omega)
      rw [Nat.add_mul] at this
      rw [d1] at hcsz
      simp;omega
    ·-- there is room
     have hc0:cap≠0:=by omega
     have hoff:=g4 hc0
     have hfit0:=g5 cur _ _ hcur hc0
     rw [d1,Nat.add_mul] at hfit0
     have hmul:=Nat.mul_le_mul_right sz hroom
     have h1:=mb (news:=news) (by rw [dC new hw];exact n1) c5 n3
     rw [Nat.add_mul] at hmul
     have hfit1:(m.pl b).2 + i * sz + n * sz + new.length * sz≤cur.size:=by omega
     have hrun:=my (P:=P) w t t o.type e inf hu hu hinf (m.pl b).1 off n cap cur (by rw [hcur,d2]) ad new.length cap2 news (by rw [i1];exact n1) n2 h1 hroom (by rw [hoff,i1,d1,n1];omega)
     rw [i1,hoff,d1,n1] at hrun
     rw [hoff,d1] at ex
     rw [hoff,d1] at inplace
     refine inplace (cur.toList.take ((m.pl b).2 + i * sz + n * sz) ++ news ++ cur.toList.drop ((m.pl b).2 + i * sz + n * sz + new.length * sz)).toArray _ (cb w _ _ cur _ hcur) (by simp [n1];omega) (by simp) (fun g hg=>setRow_other w _ g _ hg) rfl rfl rfl
      (exec a _ _ w _ _ ex e2 hrun) hroom (by rw [Nat.add_mul];omega) ?_
     intro i' j row c p q
     have hsp : ∀ qq,((cur.toList.take ((m.pl b).2 + i * sz + n * sz) ++ news ++ cur.toList.drop ((m.pl b).2 + i * sz + n * sz + new.length * sz)).toArray)[qq]? =
      if (m.pl b).2 + i * sz + n * sz≤qq∧qq < (m.pl b).2 + i * sz + n * sz + new.length * sz then news[qq - ((m.pl b).2 + i * sz + n * sz)]? else cur.toList[qq]?:=fun qq=>by
      rw [List.getElem?_toArray]
      exact bQ cur.toList news _ _ qq n1 (by simp;omega)
     have hrl:row.length=sz:=hnw row (List.mem_of_getElem? p)
     have hj:j < sz:=by rw [← hrl];exact (List.getElem?_eq_some_iff.1 q).1
     by_cases hi:i' < n
     ·rw [List.getElem?_append_left (by omega)] at p
      obtain ⟨v,v1,v2⟩:=olds i' j row c p q
      refine ⟨v,?_,v2⟩
      rw [hsp,if_neg ?_]
      ·simpa using v1
      ·have:=Nat.mul_le_mul_right sz (show i' + 1≤n by omega)
       rw [Nat.add_mul] at this
       omega
     ·rw [List.getElem?_append_right (by omega),hdl] at p
      obtain ⟨v,v1,v2⟩:=du hw n1 n3 ((cur.toList.take ((m.pl b).2 + i * sz + n * sz) ++ news ++ cur.toList.drop ((m.pl b).2 + i * sz + n * sz + new.length * sz)).toArray) ((m.pl b).2 + i * sz + n * sz) (fun qq u hq=>by
       have hlt:=(List.getElem?_eq_some_iff.1 hq).1
       rw [hsp,if_pos (by omega)]
       rw [Nat.add_sub_cancel_left];exact hq) (i' - n) j row c p q
      refine ⟨v,?_,v2⟩
      rw [← v1]
      congr 1
      have:i' * sz=n * sz + (i' - n) * sz:=by rw [← Nat.add_mul];congr 1;omega
      omega
   ·-- it grows
    obtain ⟨ovs,ov1,ov2⟩:=fd (p:=fun q v=>w.cell? ((⟨(m.pl b).1,off,none⟩:Addr).add q)=some v ∧ ∀ c,(k.rows.drop i).flatten[q]?=some c→R m h w c v) (n * sz) (fun q hq=>by
     have hn0:n≠0:=by rintro rfl;simp at hq
     have hoff:=g4 (by omega)
     have hlt:q < (k.rows.drop i).flatten.length:=by rw [dC _ hdw,hdl];exact hq
     obtain ⟨row,r1,r2⟩:=g9 _ hdw q _ (List.getElem?_eq_getElem hlt) c2
     obtain ⟨v,v1,v2⟩:=olds _ _ row _ r1 r2
     have e:q / sz * sz + q % sz=q:=by rw [Nat.mul_comm];exact Nat.div_add_mod q sz
     refine ⟨v,?_,fun c hc=>?_⟩
     ·rw [bo,hoff,d1]
      simp only [World.cell?,hcur]
      rw [← v1,Nat.add_assoc _ (q / sz * sz),e];rfl
     ·rw [List.getElem?_eq_getElem hlt] at hc;cases hc;exact v2)
    have hb48:Builtin.nextslicecap (n + new.length) cap * inf.bytes≤281474976710656:=growslice_fits (by omega) (by rw [i2];exact d4)
    have h63:((n + new.length:Nat):Int)≤9223372036854775807:=by
     have:n + new.length≤140737488355328:=Nat.le_trans (Nat.le_mul_of_pos_right _ c3) d4
     omega
    have hrun:=run_append_grow (P:=P) w t o.type e inf z0 hu hinf i3 ⟨(m.pl b).1,off,none⟩ n cap ovs (by rw [i1];exact ov1) (fun j v hj=>(ov2 j v hj).1) ad new.length cap2 news (by rw [i1];exact n1) n2 (by omega) h63 hb48
    have hge:=grownCap_ge w (n + new.length) cap e
    have hcm:grownCap w (n + new.length) cap e≤maxLen:=grownCap_le_maxLen w _ cap e (by simp only [maxLen];omega)
    generalize hgc:grownCap w (n + new.length) cap e=gc at *
    have csz:(ovs.toArray ++ news.toArray ++ Builtin.zeroCells z0.cells (gc - (n + new.length))).size=gc * sz:=by
     simp only [Array.size_append,List.size_toArray,size_zeroCells,i4,c4,n1,ov1, ← Nat.add_mul]
     congr 1;omega
    have ncl:(ovs ++ news).length=(k.rows.drop i ++ new).length * sz:=by rw [List.length_append,List.length_append,hdl,ov1,n1,Nat.add_mul]
    have nR : ∀ (q:Nat) (c:AV) (u:Value),(k.rows.drop i ++ new).flatten[q]?=some c→(ovs ++ news)[q]?=some u→R m h w c u:=fun q c u hc hu=>by
     rw [List.flatten_append] at hc
     have fl:=dC _ hdw
     rw [hdl] at fl
     by_cases hq:q < n * sz
     ·rw [List.getElem?_append_left (by omega)] at hc hu
      exact (ov2 q u hu).2 c hc
     ·rw [List.getElem?_append_right (by omega),fl] at hc
      rw [List.getElem?_append_right (by omega),ov1] at hu
      exact n3 _ c u hc hu
    have A:=rel.alloc (w' := w.drew.alloc (.cells (ovs.toArray ++ news.toArray ++ Builtin.zeroCells z0.cells (gc - (n + new.length))) e)) hfr ⟨sz,e,k.rows.drop i ++ new⟩ _ rfl rfl rfl rfl
     (by rw [csz];simp only [List.length_append,hdl];exact Nat.mul_le_mul_right _ hge) hnw (by
      have:=du hnw ncl nR (ovs.toArray ++ news.toArray ++ Builtin.zeroCells z0.cells (gc - (n + new.length))) 0 (fun q u hq=>by
       have hlt:=(List.getElem?_eq_some_iff.1 hq).1
       rw [Nat.zero_add,Array.getElem?_append_left (by simpa using hlt)]
       simpa using hq)
      simpa using this)
    have K:=A.1.kill b (by rw [Hp.upd_ne _ _ hbf,hb];simp)
    have comm:(h.upd fresh (.live ⟨sz,e,k.rows.drop i ++ new⟩)).upd b .dead=h.upds [(b,.dead),(fresh,.live ⟨sz,e,k.rows.drop i ++ new⟩)]:=by
     rw [upds]
     funext q
     by_cases q1:q=b
     ·subst q1;rw [Hp.upd_same,Hp.upd_ne _ _ hbf,Hp.upd_same]
     ·by_cases q2:q=fresh
      ·subst q2;rw [Hp.upd_ne _ _ q1,Hp.upd_same,Hp.upd_same]
      ·rw [Hp.upd_ne _ _ q1,Hp.upd_ne _ _ q2,Hp.upd_ne _ _ q2,Hp.upd_ne _ _ q1]
    rw [comm] at K
    refine ⟨_,_,_,_,exec a _ _ w _ _ ex e2 hrun,.inl rfl,K.1,A.2.trans rel K.2,?_⟩
    have hz2 : ∀ (cur2:Array Value) (e' : TypeId) (f:Nat × Nat),(w.drew.alloc (.cells (ovs.toArray ++ news.toArray ++ Builtin.zeroCells z0.cells (gc - (n + new.length))) e)).heap[((m.at fresh (w.heap.size,0)).pl fresh).1]?=some (.cells cur2 e' f)→gc≠0→((m.at fresh (w.heap.size,0)).pl fresh).2 + (0 + gc) * sz≤cur2.size:=by
     intro cur2 e' f hc _
     rw [Nm.at_same] at hc
     change (w.drew.alloc _).heap[w.drew.heap.size]?=_ at hc
     rw [heap_alloc_new] at hc
     cases hc
     rw [Nm.at_same,csz];simp
    have key:=R.sl (m:=m.at fresh (w.heap.size,0)) (h:=h.upds [(b,.dead),(fresh,.live ⟨sz,e,k.rows.drop i ++ new⟩)]) (w:=w.drew.alloc (.cells (ovs.toArray ++ news.toArray ++ Builtin.zeroCells z0.cells (gc - (n + new.length))) e)) fresh 0 (n + new.length) ⟨sz,e,k.rows.drop i ++ new⟩ (by rw [upds];exact fhp) 0 gc
     (by simp only [List.length_append,hdl];omega) hge hcm (by simp [Nm.at_same]) hz2
    rw [Nm.at_same] at key
    exact key
 ·cases h
end
theorem Rel.regrow {m:Nm} {h:Hp} {w w' : World} (rel:Rel m h w) {r id:Nat} (hr:h r = .uniq) (hu:h id = .unused) (S:Nat→Prop)
 (hS : ∀ g,S g→m.set r g∨w.heap.size≤g) (hb : ∀ g,S g→g < w'.heap.size) (hf : ∀ g,S g → ∃ cur e,w'.heap[g]?=some (.cells cur e (0,0)))
 (hsz:w.heap.size≤w'.heap.size) (far : ∀ g,g < w.heap.size → ¬ m.set r g→w'.heap[g]?=w.heap[g]?)
 (o1:w'.os=w.os) (o2:w'.tape=w.tape) (o3:w'.output=w.output) :
 Rel (m.of id S) ((h.upd r .dead).upd id .uniq) w' ∧ Ev m h w (m.of id S) ((h.upd r .dead).upd id .uniq) w' := by
 have hri:r≠id:=by rintro rfl;rw [hr] at hu;cases hu
 have hne : ∀ x,h x ≠ .unused→x≠id:=fun x hx e=>hx (e ▸ hu)
 have hN : ∀ x,x≠id→x≠r→((h.upd r .dead).upd id .uniq) x=h x:=fun x h1 h2=>by rw [Hp.upd_ne _ _ h1,Hp.upd_ne _ _ h2]
 have hR:((h.upd r .dead).upd id .uniq) r = .dead:=by rw [Hp.upd_ne _ _ hri,Hp.upd_same]
 have hI:((h.upd r .dead).upd id .uniq) id = .uniq:=Hp.upd_same _ _ _
 have ltO : ∀ x k', h x = .live k' → (m.pl x).1 < w.heap.size:=fun x k' hx=>by
  obtain ⟨c,h1,_⟩:=rel.own x k' hx
  exact (Array.getElem?_eq_some_iff.1 h1).1
 have farO : ∀ x k', h x = .live k' → w'.heap[(m.pl x).1]?=w.heap[(m.pl x).1]?:=fun x k' hx=>far _ (ltO x k' hx) fun hs=>rel.sepR x k' r hx (by rw [hr];trivial) hs
 have liv : ∀ x k,((h.upd r .dead).upd id .uniq) x = .live k→h x = .live k∧x≠id:=fun x k hx=>by
  by_cases e1:x=id
  ·subst e1;rw [hI] at hx;cases hx
  ·by_cases e2:x=r
   ·subst e2;rw [hR] at hx;cases hx
   ·rw [hN x e1 e2] at hx;exact ⟨hx,e1⟩
 have im : ∀ x,(((h.upd r .dead).upd id .uniq) x).imm→x=id∨(h x).imm∧((h.upd r .dead).upd id .uniq) x=h x∧x≠r∧x≠id:=fun x hx=>by
  by_cases e1:x=id
  ·exact .inl e1
  ·by_cases e2:x=r
   ·subst e2;rw [hR] at hx;exact hx.elim
   ·rw [hN x e1 e2] at hx;exact .inr ⟨hx,hN x e1 e2,e2,e1⟩
 have ev:Ev m h w (m.of id S) ((h.upd r .dead).upd id .uniq) w' := by
  refine ⟨fun x hx=>rfl,fun x hx=>Nm.of_ne m _ (hne x hx),fun x=>?_,hsz,?_,fun g hg _ hk=>far g hg fun hs=>?_,?_,?_,o1,o2,o3⟩
  ·by_cases e1:x=id
   ·subst e1;rw [hu];trivial
   ·by_cases e2:x=r
    ·subst e2;rw [hR,hr];trivial
    ·rw [hN x e1 e2];exact Own.goes_refl _
  ·intro x k1 k2 h1 h2 c e f hcc
   exact ⟨c,e,f,by rw [← farO x k1 h1];exact hcc,rfl⟩
  ·have:=hk r hr hs
   rw [hR] at this;cases this
  ·intro x k1 h1 h2
   rw [(liv x k1 h2).1] at h1;cases h1
  ·intro x g h1 h2 hs
   rcases im x (by rw [h2];trivial) with rfl|⟨a,b,c,d⟩
   ·rw [Nm.of_same] at hs
    rcases hS g hs with h3|h3
    ·exact .inr (.inr ⟨r,hr,hR,h3⟩)
    ·exact .inl h3
   ·rw [b,h1] at h2;cases h2
 refine ⟨⟨?_,?_,?_,?_,?_,?_⟩,ev⟩
 ·intro x k hx
  obtain ⟨hx0,hxi⟩:=liv x k hx
  obtain ⟨cur,a,b,c,d⟩:=rel.own x k hx0
  exact ⟨cur,(farO x k hx0).trans a,b,c,fun i j row cc p q=>let ⟨v,y,z⟩:=d i j row cc p q;⟨v,y,z.mono rel ev⟩⟩
 ·intro x y k1 k2 h1 h2 e
  exact rel.sep x y k1 k2 (liv x k1 h1).1 (liv y k2 h2).1 e
 ·intro x k q h1 hq hs
  obtain ⟨hx0,_⟩:=liv x k h1
  rcases im q hq with rfl|⟨a,b,c,d⟩
  ·rw [Nm.of_same] at hs
   rcases hS _ hs with h3|h3
   ·exact rel.sepR x k r hx0 (by rw [hr];trivial) h3
   ·have:=ltO x k hx0
    change w.heap.size≤(m.pl x).1 at h3
    omega
  ·rw [Nm.of_ne m _ d] at hs
   exact rel.sepR x k q hx0 a hs
 ·intro q q' g hq hq' hqq hs hs'
  rcases im q (by rw [hq];trivial) with rfl|⟨a,b,c,d⟩
  ·rcases im q' hq' with rfl|⟨a', b', c', d'⟩
   ·exact hqq rfl
   ·rw [Nm.of_same] at hs
    rw [Nm.of_ne m _ d'] at hs'
    rcases hS _ hs with h3|h3
    ·exact rel.sepU r q' g hr a' (fun e=>c' e.symm) h3 hs'
    ·have:=rel.bound q' g a' hs'; omega
  ·rw [Nm.of_ne m _ d] at hs
   rw [b] at hq
   rcases im q' hq' with rfl|⟨a', b', c', d'⟩
   ·rw [Nm.of_same] at hs'
    rcases hS _ hs' with h3|h3
    ·exact rel.sepU q r g hq (by rw [hr];trivial) c hs h3
    ·have:=rel.bound q g a hs;omega
   ·rw [Nm.of_ne m _ d'] at hs'
    exact rel.sepU q q' g hq a' hqq hs hs'
 ·intro q g hq hs
  rcases im q hq with rfl|⟨a,b,c,d⟩
  ·rw [Nm.of_same] at hs;exact hb g hs
  ·rw [Nm.of_ne m _ d] at hs;exact Nat.lt_of_lt_of_le (rel.bound q g a hs) hsz
 ·intro q g hq hs
  rcases im q (by rw [hq];trivial) with rfl|⟨a,b,c,d⟩
  ·rw [Nm.of_same] at hs;exact hf g hs
  ·rw [Nm.of_ne m _ d] at hs
   rw [b] at hq
   rw [far g (rel.bound q g a hs) fun h3=>rel.sepU q r g hq (by rw [hr];trivial) c hs h3]
   exact rel.free q g hq hs
theorem R.glist_inv {m:Nm} {h:Hp} {w:World} {r sz:Nat} {rows:List (List AV)} {v:Value} (hi:(h r).imm) (hR:R m h w (.glist r sz rows) v) :
 (rows=[]∧v = .slice none 0 0)∨(rows=[] ∧ ∃ a,v = .slice (some a) 0 0) ∨ ∃ g off cap,v = .slice (some ⟨g,off,none⟩) rows.length cap∧m.set r g∧rows.length≤cap∧cap≤maxLen∧(∀ row,row∈rows→row.length=sz) ∧
  (cap≠0 → ∀ (cur:Array Value) (e:TypeId) (f:Nat × Nat),w.heap[g]?=some (.cells cur e f)→off + cap * sz≤cur.size) ∧
  ∃ f:Nat→Nat→Value,(∀ (i j:Nat) (row:List AV) (c:AV),rows[i]?=some row→row[j]?=some c→w.cell? ⟨g,off + i * sz + j,none⟩=some (f i j)) ∧ ∀ (i j:Nat) (row:List AV) (c:AV),rows[i]?=some row→row[j]?=some c→R m h w c (f i j):=by
 cases hR with
 | gnil=>exact .inl ⟨rfl,rfl⟩
 | gemp _ _ a hr=>exact .inr (.inl ⟨rfl,a,rfl⟩)
 | glist _ _ _ hr g off cap hg hc hm hw hz f hf hRR=>exact .inr (.inr ⟨g,off,cap,rfl,hg,hc,hm,hw,hz,f,hf,hRR⟩)
 | glistD _ _ _ _ hd _=>rw [hd] at hi;exact hi.elim
section
variable {P:Program}
theorem gQ (w:World) (t t2 ty e e0:TypeId) (i:TypeInfo) (ht:P.underlying t=some (.slice e)) (ht2:P.underlying t2=some (.slice e)) (hi:P.info? e=some i)
 (g o sLen sCap:Nat) (cur:Array Value) (hg:w.heap[g]?=some (.cells cur e0 (0,0)))
 (a:Addr) (m c:Nat) (news:List Value) (hl:news.length=m * i.size) (hnews : ∀ j u,news[j]?=some u→w.cell? (a.add j)=some u) (h1 : ∀ u∈news,u.oneCell' = true)
 (hroom:sLen + m≤sCap) (hfit:o + sLen * i.size + news.length≤cur.size) :
 (Builtin.append_ #[t,t2] ty #[.slice (some ⟨g,o,none⟩) sLen sCap,.slice (some a) m c]).run P w =
  .ok (.slice (some ⟨g,o,none⟩) (sLen + m) sCap) (w.setRow g (cur.toList.take (o + sLen * i.size) ++ news ++ cur.toList.drop (o + sLen * i.size + news.length)).toArray):=by
 have hf:=run_firstCells_some (P:=P) w i.size m a m c news hl hnews
 have hst:=run_storeCells_at P g (o + sLen * i.size) e0 news 0 cur w hg (by simpa using hfit) h1
 simp only [Nat.add_zero] at hst
 simp [Builtin.append_,run_underlying ht,run_underlying ht2,sizeOf,typeInfo,hi,Builtin.lenOf,hroom,hf,bo,hst]
@[go_sem] def agrow (P:Program) (t:TypeId) (x y:AV) (look:Nat→Own) (fresh:Nat) (rdy:List (Nat × Own)):Option Res :=
  match bw P t with
  | some e =>
    match aY P e,en P e,dA P e,arows look y with
    | some n0,some nb,some z,some (sz,new) =>
      if sz=n0∧0 < n0∧0 < nb∧z.length=n0∧new.all (fun r=>r.all AV.one)=true then
       match x with
       | .glist r sz' rows =>
         match look r with
         | .uniq =>
           if sz' = n0∧(rows.length + new.length) * nb≤140737488355328 then
            some ⟨.glist fresh n0 (rows ++ new),(r,.uniq)::(fresh,.unused)::rdy,[(r,.dead),(fresh,.uniq)]⟩
           else none
         | _=>none
       | _=>none
      else none
    | _,_,_,_=>none
  | none=>none
theorem un {s:List AV} {o:Oper} {t:TypeId} {x y:Operand} (ho:o.op = .call { callee := .builtin .append,args := #[x,y],argTypes := #[t,t] }) {look:Nat→Own} {fresh:Nat} {rdy:List (Nat × Own)} {r:Res}
 (hl:alive look (ae s y)=some rdy) (h:agrow P t (ae s x) (ae s y) look fresh rdy=some r):OpL P o s r:=by
 unfold agrow at h
 split at h
 case h_2=>cases h
 rename_i e he
 have hu:=di he
 split at h
 case h_2=>cases h
 rename_i n0 nb z sz new hn hnb hz hrows
 split at h
 case isFalse=>cases h
 rename_i hcond
 obtain ⟨c1,c2,c3,c4,c5⟩:=hcond
 subst c1
 obtain ⟨inf,z0,hinf,i1,i2,i3,i4⟩:=lG hn hnb hz
 have exec : ∀ (a:Act) (v1 v2:Value) (w w' : World) (v:Value),a.eval x=v1→a.eval y=v2→(Builtin.append_ #[t,t] o.type #[v1,v2]).run P w = .ok v w' → (execOp a.eval o).run P w = .ok (.value v) w' := by
  intro a v1 v2 w w' v e1 e2 hr
  simp [execOp,ho,resolve,invoke,builtin,e1,e2,hr]
 split at h
 case h_2=>cases h
 rename_i q sz' rows hxe
 split at h
 case h_2=>cases h
 rename_i hlk
 split at h
 case isFalse=>cases h
 rename_i hc2
 obtain ⟨d1,d4⟩:=hc2
 have d1' := d1.symm
 clear d1
 subst d1'
 cases h
 intro h hrd m w a rel hop
 have hx:=hop x (by simp [ho,Op.operands,Call.operands])
 have hy:=hop y (by simp [ho,Op.operands,Call.operands])
 rw [hxe] at hx
 have hq:h q = .uniq:=hrd (q,.uniq) (by simp)
 have hfr:h fresh = .unused:=hrd (fresh,.unused) (by simp)
 have hqf:q≠fresh:=by rintro rfl;rw [hq] at hfr;cases hfr
 have hqi:(h q).imm:=by rw [hq];trivial
 obtain ⟨hw,hcase⟩:=iL rel hrows hl (fun p hp=>hrd p (by simp [hp])) hy c2
 have upds:h.upds [(q,.dead),(fresh,.uniq)]=(h.upd q .dead).upd fresh .uniq:=rfl
 have fhp:((h.upd q .dead).upd fresh .uniq) fresh = .uniq:=Hp.upd_same _ _ _
 have goal : ∀ (S:Nat→Prop) (w' : World) (v:Value),(execOp a.eval o).run P w = .ok (.value v) w' →
  (∀ g,S g→m.set q g∨w.heap.size≤g)→(∀ g,S g→g < w'.heap.size)→(∀ g,S g → ∃ cur e,w'.heap[g]?=some (.cells cur e (0,0)))→w.heap.size≤w'.heap.size →
  (∀ g,g < w.heap.size → ¬ m.set q g→w'.heap[g]?=w.heap[g]?)→w'.os=w.os→w'.tape=w.tape→w'.output=w.output →
  (∀ m' : Nm,(∀ c u,R m h w c u→R m' ((h.upd q .dead).upd fresh .uniq) w' c u)→m'.set fresh=S→R m' ((h.upd q .dead).upd fresh .uniq) w' (.glist fresh sz (rows ++ new)) v) →
  ∃ nx v m' w', (execOp a.eval o).run P w = .ok nx w' ∧ (nx = .value v∨nx = .skip∧v=undef)∧Rel m' (h.upds [(q,.dead),(fresh,.uniq)]) w' ∧ Ev m h w m' (h.upds [(q,.dead),(fresh,.uniq)]) w' ∧
   R m' (h.upds [(q,.dead),(fresh,.uniq)]) w' (.glist fresh sz (rows ++ new)) v:=by
  intro S w' v hrun p1 p2 p3 p4 p5 p6 p7 p8 hR
  have A:=rel.regrow hq hfr S p1 p2 p3 p4 p5 p6 p7 p8
  exact ⟨_,_,_,w', hrun,.inl rfl,A.1,A.2,hR _ (fun c u hc=>hc.mono rel A.2) (Nm.of_same _ _ _)⟩
 -- a new block that holds all
 have fresh_block : ∀ (vs:List Value) (gc:Nat) (w1:World) (v:Value),vs.length=(rows ++ new).length * sz→(∀ row,row∈rows ++ new→row.length=sz)→(∀ (q:Nat) (c:AV) (u:Value),(rows ++ new).flatten[q]?=some c→vs[q]?=some u→R m h w c u)→(rows ++ new).length≤gc→gc≤maxLen →
  w1=w.drew.alloc (.cells (vs.toArray ++ Builtin.zeroCells z0.cells (gc - (rows ++ new).length)) e)→v = .slice (some ⟨w.heap.size,0,none⟩) (rows ++ new).length gc→(execOp a.eval o).run P w = .ok (.value v) w1 →
  ∃ nx v m' w', (execOp a.eval o).run P w = .ok nx w' ∧ (nx = .value v∨nx = .skip∧v=undef)∧Rel m' (h.upds [(q,.dead),(fresh,.uniq)]) w' ∧ Ev m h w m' (h.upds [(q,.dead),(fresh,.uniq)]) w' ∧
   R m' (h.upds [(q,.dead),(fresh,.uniq)]) w' (.glist fresh sz (rows ++ new)) v:=by
  intro vs gc w1 v hvl hvw hvR hge hcm hw1 hv hrun
  subst hv
  have hnewc:w1.heap[w.heap.size]?=some (.cells (vs.toArray ++ Builtin.zeroCells z0.cells (gc - (rows ++ new).length)) e (0,0)):=by
   rw [hw1]
   change (w.drew.alloc _).heap[w.drew.heap.size]?=_
   rw [heap_alloc_new]
  have csz:(vs.toArray ++ Builtin.zeroCells z0.cells (gc - (rows ++ new).length)).size=gc * sz:=by
   simp only [Array.size_append,List.size_toArray,size_zeroCells,i4,c4,hvl, ← Nat.add_mul]
   congr 1;omega
  have hs1:w1.heap.size=w.heap.size + 1:=by rw [hw1];exact Array.size_push ..
  refine goal (fun g=>g=w.heap.size) w1 _ hrun (fun g hg => .inr (by omega)) (fun g hg=>by omega) (fun g hg=>by subst hg;exact ⟨_,_,hnewc⟩) (by omega) (fun g hg _=>?_) (by rw [hw1];rfl) (by rw [hw1];rfl) (by rw [hw1];rfl) fun m' mono hset=>?_
  ·rw [hw1]
   change (w.heap.push _)[g]?=_
   rw [Array.getElem?_push,if_neg (by omega)]
  ·have cell : ∀ (i j:Nat) (row:List AV) (c:AV),(rows ++ new)[i]?=some row→row[j]?=some c → ∃ v,w1.cell? ⟨w.heap.size,0 + i * sz + j,none⟩=some v∧R m h w c v:=fun i j row c p1 p2=>by
    have:=du hvw hvl hvR (vs.toArray ++ Builtin.zeroCells z0.cells (gc - (rows ++ new).length)) 0 (fun q u hq=>by
     rw [Nat.zero_add,Array.getElem?_append_left (by simpa using (List.getElem?_eq_some_iff.1 hq).1)];simpa using hq) i j row c p1 p2
    obtain ⟨v,v1,v2⟩:=this
    refine ⟨v,?_,v2⟩
    simp only [World.cell?,hnewc]
    rw [← v1];rfl
   refine .glist fresh sz _ (by rw [fhp];trivial) w.heap.size 0 gc (by rw [hset]) hge hcm hvw (fun _ cur2 e2 f2 hc=>?_) (fun i j=>(w1.cell? ⟨w.heap.size,0 + i * sz + j,none⟩).getD undef) (fun i j row c p1 p2=>?_) fun i j row c p1 p2=>?_
   ·rw [hnewc] at hc;cases hc;rw [csz];simp
   ·obtain ⟨v,v1,_⟩:=cell i j row c p1 p2
    rw [v1];rfl
   ·obtain ⟨v,v1,v2⟩:=cell i j row c p1 p2
    rw [v1];exact mono _ _ v2
 rcases R.glist_inv hqi hx with ⟨hr0,ex⟩|⟨hr0,a0,ex⟩|⟨g,off,cap,ex,hg,g1,g2,g3,g4,f,g5,g6⟩
 ·-- nil
  subst hr0
  by_cases hm0:new.length=0
  ·have hn0:new=[]:=List.eq_nil_of_length_eq_zero hm0
   subst hn0
   refine goal (fun _=>False) w (.slice none 0 0) ?_ (fun g hg=>hg.elim) (fun g hg=>hg.elim) (fun g hg=>hg.elim) (Nat.le_refl _) (fun _ _ _=>rfl) rfl rfl rfl fun m' mono hset => .gnil _ _
   rcases hcase with ⟨e1,e2⟩|⟨ad,cap2,e2,hmx,news,n1,n2,n3⟩
   ·refine exec a _ _ w w _ ex e2 ?_
    simp [Builtin.append_,run_underlying hu,sizeOf,typeInfo,hinf,Builtin.lenOf,Builtin.firstCells,storeCells]
   ·have hnews:news=[]:=List.eq_nil_of_length_eq_zero (by simpa using n1)
    subst hnews
    refine exec a _ _ w w _ ex e2 ?_
    simp [Builtin.append_,run_underlying hu,sizeOf,typeInfo,hinf,Builtin.lenOf,Builtin.firstCells,storeCells,loadCells,loadCellsFrom]
  ·rcases hcase with ⟨e1,e2⟩|⟨ad,cap2,e2,hmx,news,n1,n2,n3⟩
   ·rw [e1] at hm0;simp at hm0
   ·simp only [List.length_nil,Nat.zero_add] at d4
    have hb:new.length * inf.bytes≤281474976710656:=by rw [i2];omega
    have h63:(new.length:Int)≤9223372036854775807:=by
     have:new.length≤140737488355328:=Nat.le_trans (Nat.le_mul_of_pos_right _ c3) d4
     omega
    have hrun:=run_append_nil (P:=P) w t o.type e inf z0 hu hinf i3 ad new.length cap2 news (by rw [i1];exact n1) n2 (by omega) h63 hb
    have hge:=grownCap_ge w new.length 0 e
    have hcm:grownCap w new.length 0 e≤maxLen:=grownCap_le_maxLen w _ 0 e (by simp only [maxLen];omega)
    exact fresh_block news (grownCap w new.length 0 e) _ _ (by simpa using n1) (by simpa using hw) (by simpa using n3) (by simpa using hge) hcm rfl rfl (exec a _ _ w _ _ ex e2 (by simpa using hrun))
 ·-- empty,of no room
  subst hr0
  by_cases hm0:new.length=0
  ·have hn0:new=[]:=List.eq_nil_of_length_eq_zero hm0
   subst hn0
   refine goal (fun _=>False) w (.slice (some a0) 0 0) ?_ (fun g hg=>hg.elim) (fun g hg=>hg.elim) (fun g hg=>hg.elim) (Nat.le_refl _) (fun _ _ _=>rfl) rfl rfl rfl fun m' mono hset => .gemp _ _ _ (by rw [fhp];trivial)
   rcases hcase with ⟨e1,e2⟩|⟨ad,cap2,e2,hmx,news,n1,n2,n3⟩
   ·refine exec a _ _ w w _ ex e2 ?_
    simp [Builtin.append_,run_underlying hu,sizeOf,typeInfo,hinf,Builtin.lenOf,Builtin.firstCells,storeCells]
   ·have hnews:news=[]:=List.eq_nil_of_length_eq_zero (by simpa using n1)
    subst hnews
    refine exec a _ _ w w _ ex e2 ?_
    simp [Builtin.append_,run_underlying hu,sizeOf,typeInfo,hinf,Builtin.lenOf,Builtin.firstCells,storeCells,loadCells,loadCellsFrom]
  ·rcases hcase with ⟨e1,e2⟩|⟨ad,cap2,e2,hmx,news,n1,n2,n3⟩
   ·rw [e1] at hm0;simp at hm0
   ·simp only [List.length_nil,Nat.zero_add] at d4
    have hb48:Builtin.nextslicecap (0 + new.length) 0 * inf.bytes≤281474976710656:=growslice_fits (by omega) (by rw [i2,Nat.zero_add];exact d4)
    have h63:((0 + new.length:Nat):Int)≤9223372036854775807:=by
     have:new.length≤140737488355328:=Nat.le_trans (Nat.le_mul_of_pos_right _ c3) d4
     omega
    have hrun:=run_append_grow (P:=P) w t o.type e inf z0 hu hinf i3 a0 0 0 [] (by simp) (by simp) ad new.length cap2 news (by rw [i1];exact n1) n2 (by omega) h63 hb48
    simp only [Nat.zero_add] at hrun h63
    have hge:=grownCap_ge w new.length 0 e
    have hcm:grownCap w new.length 0 e≤maxLen:=grownCap_le_maxLen w _ 0 e (by simp only [maxLen];omega)
    exact fresh_block news (grownCap w new.length 0 e) _ _ (by simpa using n1) (by simpa using hw) (by simpa using n3) (by simpa using hge) hcm rfl rfl (exec a _ _ w _ _ ex e2 (by simpa using hrun))
 ·obtain ⟨cur,e0,hcur⟩:=rel.free q g hq hg
  have hglt:g < w.heap.size:=rel.bound q g hqi hg
  have hnw : ∀ row,row∈rows ++ new→row.length=sz:=fun row hr=>by
   rcases List.mem_append.1 hr with hr|hr
   ·exact g3 row hr
   ·exact hw row hr
  have olds : ∀ (i j:Nat) (row:List AV) (c:AV),rows[i]?=some row→row[j]?=some c → ∃ v,cur[off + i * sz + j]?=some v∧R m h w c v:=fun i j row c p1 p2=>by
   have h1:=g5 i j row c p1 p2
   simp only [World.cell?,hcur] at h1
   refine ⟨f i j,?_,g6 i j row c p1 p2⟩
   simpa using h1
  have bnd : ∀ g', m.set q g' → g' < w.heap.size:=fun g' hs=>rel.bound q g' hqi hs
  have inplace : ∀ (cur' : Array Value) (w' : World),w'.heap[g]?=some (.cells cur' e0 (0,0))→cur'.size=cur.size→w'.heap.size=w.heap.size→(∀ g', g' ≠ g→w'.heap[g']?=w.heap[g']?)→w'.os=w.os→w'.tape=w.tape→w'.output=w.output →
   (execOp a.eval o).run P w = .ok (.value (.slice (some ⟨g,off,none⟩) (rows ++ new).length cap)) w' → (rows ++ new).length≤cap →
   (∀ (i j:Nat) (row:List AV) (c:AV),(rows ++ new)[i]?=some row→row[j]?=some c → ∃ v,cur'[off + i * sz + j]?=some v∧R m h w c v) →
   ∃ nx v m' w', (execOp a.eval o).run P w = .ok nx w' ∧ (nx = .value v∨nx = .skip∧v=undef)∧Rel m' (h.upds [(q,.dead),(fresh,.uniq)]) w' ∧ Ev m h w m' (h.upds [(q,.dead),(fresh,.uniq)]) w' ∧
    R m' (h.upds [(q,.dead),(fresh,.uniq)]) w' (.glist fresh sz (rows ++ new)) v:=by
   intro cur' w' p1 p2 p3 p4 p5 p6 p7 hrun hle hcells
   refine goal (m.set q) w' _ hrun (fun g' hs => .inl hs) (fun g' hs=>by rw [p3];exact bnd g' hs) (fun g' hs=>?_) (by omega) (fun g' _ hs=>p4 g' fun e=>hs (e ▸ hg)) p5 p6 p7 fun m' mono hset=>?_
   ·by_cases e:g' = g
    ·subst e;exact ⟨_,_,p1⟩
    ·rw [p4 g' e];exact rel.free q g' hq hs
   ·have cell : ∀ (i j:Nat) (row:List AV) (c:AV),(rows ++ new)[i]?=some row→row[j]?=some c → ∃ v,w'.cell? ⟨g,off + i * sz + j,none⟩=some v∧R m h w c v:=fun i j row c q1 q2=>by
     obtain ⟨v,v1,v2⟩:=hcells i j row c q1 q2
     refine ⟨v,?_,v2⟩
     simp only [World.cell?,p1]
     rw [← v1];rfl
    refine .glist fresh sz _ (by rw [fhp];trivial) g off cap (by rw [hset];exact hg) hle g2 hnw (fun c0 cur2 e2 f2 hc=>?_) (fun i j=>(w'.cell? ⟨g,off + i * sz + j,none⟩).getD undef) (fun i j row c q1 q2=>?_) fun i j row c q1 q2=>?_
    ·rw [p1] at hc;cases hc;rw [p2];exact g4 c0 _ _ _ hcur
    ·obtain ⟨v,v1,_⟩:=cell i j row c q1 q2
     rw [v1];rfl
    ·obtain ⟨v,v1,v2⟩:=cell i j row c q1 q2
     rw [v1];exact mono _ _ v2
  rcases hcase with ⟨e1,e2⟩|⟨ad,cap2,e2,hmx,news,n1,n2,n3⟩
  ·subst e1
   refine inplace cur w hcur rfl rfl (fun _ _=>rfl) rfl rfl rfl (exec a _ _ w w _ ex e2 ?_) (by simpa using g1) (by simpa using olds)
   simp [Builtin.append_,run_underlying hu,sizeOf,typeInfo,hinf,Builtin.lenOf,Builtin.firstCells,g1,storeCells]
  ·by_cases hroom:rows.length + new.length≤cap
   ·by_cases hm0:new.length=0
    ·have hn0:new=[]:=List.eq_nil_of_length_eq_zero hm0
     subst hn0
     have hnews:news=[]:=List.eq_nil_of_length_eq_zero (by simpa using n1)
     subst hnews
     refine inplace cur w hcur rfl rfl (fun _ _=>rfl) rfl rfl rfl (exec a _ _ w w _ ex e2 ?_) (by simpa using g1) (by simpa using olds)
     simp [Builtin.append_,run_underlying hu,sizeOf,typeInfo,hinf,Builtin.lenOf,Builtin.firstCells,g1,storeCells,loadCells,loadCellsFrom]
    ·have hfit0:=g4 (by omega) cur _ _ hcur
     have hmul:=Nat.mul_le_mul_right sz hroom
     have h1:=mb (news:=news) (by rw [dC new hw];exact n1) c5 n3
     rw [Nat.add_mul] at hmul
     have hfit1:off + rows.length * sz + new.length * sz≤cur.size:=by omega
     have hrun:=gQ (P:=P) w t t o.type e e0 inf hu hu hinf g off rows.length cap cur hcur ad new.length cap2 news (by rw [i1];exact n1) n2 h1 hroom (by rw [i1,n1];omega)
     rw [i1,n1] at hrun
     refine inplace (cur.toList.take (off + rows.length * sz) ++ news ++ cur.toList.drop (off + rows.length * sz + new.length * sz)).toArray _ (cb w _ _ cur _ hcur) (by simp [n1];omega) (by simp) (fun g' hg' => setRow_other w _ g' _ hg') rfl rfl rfl
      (exec a _ _ w _ _ ex e2 (by rw [List.length_append];exact hrun)) (by rw [List.length_append];exact hroom) ?_
     intro i j row c p1 p2
     have hsp : ∀ qq,((cur.toList.take (off + rows.length * sz) ++ news ++ cur.toList.drop (off + rows.length * sz + new.length * sz)).toArray)[qq]? =
      if off + rows.length * sz≤qq∧qq < off + rows.length * sz + new.length * sz then news[qq - (off + rows.length * sz)]? else cur.toList[qq]?:=fun qq=>by
      rw [List.getElem?_toArray]
      exact bQ cur.toList news _ _ qq n1 (by simp;omega)
     have hrl:row.length=sz:=hnw row (List.mem_of_getElem? p1)
     have hj:j < sz:=by rw [← hrl];exact (List.getElem?_eq_some_iff.1 p2).1
     by_cases hi:i < rows.length
     ·rw [List.getElem?_append_left (by omega)] at p1
      obtain ⟨v,v1,v2⟩:=olds i j row c p1 p2
      refine ⟨v,?_,v2⟩
      rw [hsp,if_neg ?_]
      ·simpa using v1
      ·have:=Nat.mul_le_mul_right sz (show i + 1≤rows.length by omega)
       rw [Nat.add_mul] at this
       omega
     ·rw [List.getElem?_append_right (by omega)] at p1
      obtain ⟨v,v1,v2⟩:=du hw n1 n3 ((cur.toList.take (off + rows.length * sz) ++ news ++ cur.toList.drop (off + rows.length * sz + new.length * sz)).toArray) (off + rows.length * sz) (fun qq u hq=>by
       have hlt:=(List.getElem?_eq_some_iff.1 hq).1
       rw [hsp,if_pos (by omega)]
       rw [Nat.add_sub_cancel_left];exact hq) (i - rows.length) j row c p1 p2
      refine ⟨v,?_,v2⟩
      rw [← v1]
      congr 1
      have:i * sz=rows.length * sz + (i - rows.length) * sz:=by rw [← Nat.add_mul];congr 1;omega
      omega
   ·-- it grows
    obtain ⟨ovs,ov1,ov2⟩:=fd (p:=fun qq v=>w.cell? ((⟨g,off,none⟩:Addr).add qq)=some v ∧ ∀ c,rows.flatten[qq]?=some c→R m h w c v) (rows.length * sz) (fun qq hq=>by
     have hlt:qq < rows.flatten.length:=by rw [dC _ g3];exact hq
     obtain ⟨row,r1,r2⟩:=g9 _ g3 qq _ (List.getElem?_eq_getElem hlt) c2
     obtain ⟨v,v1,v2⟩:=olds _ _ row _ r1 r2
     have e:qq / sz * sz + qq % sz=qq:=by rw [Nat.mul_comm];exact Nat.div_add_mod qq sz
     refine ⟨v,?_,fun c hc=>?_⟩
     ·rw [bo]
      simp only [World.cell?,hcur]
      rw [← v1,Nat.add_assoc _ (qq / sz * sz),e];rfl
     ·rw [List.getElem?_eq_getElem hlt] at hc;cases hc;exact v2)
    have hb48:Builtin.nextslicecap (rows.length + new.length) cap * inf.bytes≤281474976710656:=growslice_fits (by omega) (by rw [i2];exact d4)
    have h63:((rows.length + new.length:Nat):Int)≤9223372036854775807:=by
     have:rows.length + new.length≤140737488355328:=Nat.le_trans (Nat.le_mul_of_pos_right _ c3) d4
     omega
    have hrun:=run_append_grow (P:=P) w t o.type e inf z0 hu hinf i3 ⟨g,off,none⟩ rows.length cap ovs (by rw [i1];exact ov1) (fun j v hj=>(ov2 j v hj).1) ad new.length cap2 news (by rw [i1];exact n1) n2 (by omega) h63 hb48
    have hge:=grownCap_ge w (rows.length + new.length) cap e
    have hcm:grownCap w (rows.length + new.length) cap e≤maxLen:=grownCap_le_maxLen w _ cap e (by simp only [maxLen];omega)
    have ncl:(ovs ++ news).length=(rows ++ new).length * sz:=by rw [List.length_append,List.length_append,ov1,n1,Nat.add_mul]
    have nR : ∀ (q:Nat) (c:AV) (u:Value),(rows ++ new).flatten[q]?=some c→(ovs ++ news)[q]?=some u→R m h w c u:=fun q c u hc hu=>by
     rw [List.flatten_append] at hc
     have fl:=dC _ g3
     by_cases hq:q < rows.length * sz
     ·rw [List.getElem?_append_left (by omega)] at hc hu
      exact (ov2 q u hu).2 c hc
     ·rw [List.getElem?_append_right (by omega),fl] at hc
      rw [List.getElem?_append_right (by omega),ov1] at hu
      exact n3 _ c u hc hu
    exact fresh_block (ovs ++ news) (grownCap w (rows.length + new.length) cap e) _ _ ncl hnw nR (by rw [List.length_append];exact hge) hcm rfl (by rw [List.length_append]) (exec a _ _ w _ _ ex e2 (by
     rw [hrun,List.length_append]
     congr 2
     simp))
@[go_sem] def aapp (P:Program) (t:TypeId) (x y:AV) (look:Nat→Own) (fresh:Nat) (rdy:List (Nat × Own)):Option Res :=
  match x with
  | .glist r sz rows=>agrow P t (.glist r sz rows) y look fresh rdy
  | x=>aappend P t x y look fresh rdy
theorem wK {s:List AV} {o:Oper} {t:TypeId} {x y:Operand} (ho:o.op = .call { callee := .builtin .append,args := #[x,y],argTypes := #[t,t] }) {look:Nat→Own} {fresh:Nat} {rdy:List (Nat × Own)} {r:Res}
 (hl:alive look (ae s y)=some rdy) (h:aapp P t (ae s x) (ae s y) look fresh rdy=some r):OpL P o s r:=by
 unfold aapp at h
 split at h
 ·rename_i e
  rw [← e] at h
  exact un ho hl h
 ·exact qk ho hl h
end
section
variable {P:Program}
@[go_sem] def chunks (sz:Nat) (flat:List AV) (n:Nat):List (List AV):=(List.range n).map fun i=>(flat.drop (i * sz)).take sz
theorem qB {sz n:Nat} {flat:List AV} (hf:flat.length=n * sz) : ∀ row,row∈chunks sz flat n→row.length=sz:=by
 intro row hr
 simp only [chunks,List.mem_map,List.mem_range] at hr
 obtain ⟨i,hi,rfl⟩:=hr
 have:=Nat.mul_le_mul_right sz (show i + 1≤n from hi)
 rw [Nat.add_mul,Nat.one_mul] at this
 rw [List.length_take,List.length_drop];omega
theorem qr {sz n:Nat} {flat:List AV} {i j:Nat} {row:List AV} {c:AV} (h1:(chunks sz flat n)[i]?=some row) (h2:row[j]?=some c):flat[i * sz + j]?=some c:=by
 simp only [chunks,List.getElem?_map,Option.map_eq_some_iff] at h1
 obtain ⟨i', hi,rfl⟩:=h1
 have:i' = i:=by
  have:=(List.getElem?_eq_some_iff.1 hi)
  obtain ⟨_,h⟩:=this
  simp at h;exact h.symm
 subst this
 rw [List.getElem?_take] at h2
 split at h2
 ·rw [List.getElem?_drop] at h2;exact h2
 ·cases h2
theorem qw {m:Nm} {h:Hp} {w:World} (rel:Rel m h w) {id:Nat} (hu:h id = .unused) (e:TypeId) (sz n:Nat) (flat:List AV) (vs:Array Value) (hl:flat.length=vs.size) (hf:flat.length=n * sz) (hn:n≤maxLen)
 (hc : ∀ (i:Nat) (c:AV) (v:Value),flat[i]?=some c→vs[i]?=some v→R m h w c v) :
 Rel (m.at id (w.heap.size,0)) (h.upd id (.live ⟨sz,e,chunks sz flat n⟩)) (w.alloc (.cells vs e))∧Ev m h w (m.at id (w.heap.size,0)) (h.upd id (.live ⟨sz,e,chunks sz flat n⟩)) (w.alloc (.cells vs e)) ∧
  R (m.at id (w.heap.size,0)) (h.upd id (.live ⟨sz,e,chunks sz flat n⟩)) (w.alloc (.cells vs e)) (.sl id 0 n) (.slice (some ⟨w.heap.size,0,none⟩) n n):=by
 have cl:(chunks sz flat n).length=n:=by simp [chunks]
 have A:=rel.alloc (w' := w.alloc (.cells vs e)) hu ⟨sz,e,chunks sz flat n⟩ vs rfl rfl rfl rfl (by simp only [cl];omega) (qB hf) (fun i j row c h1 h2=>by
  have h3:=qr h1 h2
  have hlt:i * sz + j < vs.size:=by rw [← hl];exact (List.getElem?_eq_some_iff.1 h3).1
  exact ⟨vs[i * sz + j],by simp [hlt],hc _ c _ h3 (by simp [hlt])⟩)
 refine ⟨A.1,A.2,?_⟩
 have key:=R.sl (m:=m.at id (w.heap.size,0)) (h:=h.upd id (.live ⟨sz,e,chunks sz flat n⟩)) (w:=w.alloc (.cells vs e)) id 0 n ⟨sz,e,chunks sz flat n⟩ (Hp.upd_same _ _ _) 0 n (by simp only [cl];omega) (Nat.le_refl _) hn (by simp [Nm.at_same]) (by
  intro cur e' f hcc _
  rw [Nm.at_same,heap_alloc_new] at hcc
  cases hcc
  rw [Nm.at_same];simp;omega)
 rw [Nm.at_same] at key
 exact key
@[go_sem] def abslice (P:Program) (t:TypeId) (len:Nat) (parts:List (Nat × AV)) (fresh:Nat):Option Res :=
  match bw P t with
  | some e=>match aY P e,dA P e with
    | some n0,some z =>
      if len * n0≤16777216∧len≤16777216∧0 < n0∧z.length=n0 then
       jl ((List.range (len * n0)).map fun q => .val (z.getD (q % n0) undef)) fun c=>(afill (fun i=>some (i * n0,n0)) c parts).map fun flat=>⟨.sl fresh 0 len,[(fresh,.unused)],[(fresh,.live ⟨n0,e,chunks n0 flat len⟩)]⟩
      else none
    | _,_=>none
  | none=>none
theorem mc {place:Nat→Option (Nat × Nat)} : ∀ (parts:List (Nat × AV)) (cells out:List AV),afill place cells parts=some out→out.length=cells.length
 | [],cells,out,h=>by simp only [afill,Option.some.injEq] at h;rw [h]
 | p::parts,cells,out,h=>by
   simp only [afill,eI] at h
   split at h
   ·cases h
   ·split at h
    ·rename_i hc
     rw [mc parts _ out h]
     simp [hc.1];omega
    ·cases h
theorem q6 {s:List AV} {o:Oper} {t:TypeId} {len:Nat} {parts:Array (Nat × Operand)} (ho:o.op = .buildSlice t len parts) {fresh:Nat} {r:Res} (h:abslice P t len (parts.toList.map fun p=>(p.1,ae s p.2)) fresh=some r):OpL P o s r:=by
 unfold abslice at h
 split at h
 case h_2=>cases h
 rename_i e he
 split at h
 case h_2=>cases h
 rename_i n0 z hn hz
 split at h
 case isFalse=>cases h
 rename_i hc
 obtain ⟨c1,c2,c3,c5⟩:=hc
 simp only [eI,Option.map_eq_some_iff] at h
 obtain ⟨flat,hflat,rfl⟩:=h
 intro h hrd m w a rel hop
 have hu:h fresh = .unused:=hrd (fresh,.unused) (by simp)
 obtain ⟨v,hv,hcs⟩:=ig hz w
 have hops : ∀ x,x∈parts.toList.map (·.2)→R m h w (ae s x) (a.eval x):=fun x hx=>hop x (by simpa [ho,Op.operands] using hx)
 have hzz:((Array.range (len * n0)).map (v.cells[· % v.cells.size]!))=((List.range (len * n0)).map fun q=>z.getD (q % n0) undef).toArray:=by
  rw [hcs]
  apply Array.ext
  ·simp
  ·intro q h1 h2
   simp at h1
   have hq:q % n0 < z.length:=by rw [c5];exact Nat.mod_lt _ c3
   simp [c5,hq,List.getD]
   rw [List.getElem?_eq_getElem hq];rfl
 obtain ⟨vout,r1,r2,r3⟩:=j6 (m:=m) (h:=h) (w:=w) (place:=fun (i:Nat)=>some (i * n0,n0)) _ (parts.toList.map fun p=>(p.1,a.eval p.2)) _ ((Array.range (len * n0)).map (v.cells[· % v.cells.size]!)) flat hflat (by simp) (fun (i:Nat) (p:Nat × AV) (q:Nat × Value) hp hq=>by
  simp only [List.getElem?_map,Option.map_eq_some_iff] at hp hq
  obtain ⟨p0,hp0,rfl⟩:=hp
  obtain ⟨q0,hq0,rfl⟩:=hq
  rw [hp0] at hq0
  cases hq0
  exact ⟨rfl,hops _ (List.mem_map.2 ⟨p0,List.mem_of_getElem? hp0,rfl⟩)⟩) (by simp) (fun i c v' h1 h2=>by
  rw [hzz] at h2
  simp only [List.getElem?_toArray,List.getElem?_map,Option.map_eq_some_iff] at h1 h2
  obtain ⟨q1,g1,rfl⟩:=h1
  obtain ⟨q2,g2,rfl⟩:=h2
  rw [g1] at g2
  cases g2
  exact .val _)
 have hfl:=mc _ _ _ hflat
 simp only [List.length_map,List.length_range] at hfl
 have A:=qw rel hu e n0 len flat vout r2 hfl (by unfold maxLen;omega) r3
 refine ⟨_,_,_,_,?_,.inl rfl,A.1,A.2.1,A.2.2⟩
 have e0:(parts.map fun x=>match x with|(i,x)=>(i,a.eval x)).toList=parts.toList.map fun p=>(p.1,a.eval p.2):=by simp
 have hle : ¬ (16777216 < len * n0):=by omega
 simp only [execOp,ho,Instr.buildSlice,Sem.run_bind,run_underlying (di he),Result.andThen_ok,aW hn,e0]
 rcases Nat.eq_zero_or_pos len with c4|c4
 ·subst c4
  simp only [Nat.zero_mul] at r1 ⊢
  have r1' : Instr.fill (fun (i:Nat)=>some (i * n0,n0)) ((Array.range 0).map fun x=>(#[]:Array Value)[x % (#[]:Array Value).size]!) (parts.toList.map fun p=>(p.1,a.eval p.2))=some vout:=by
   have e : ∀ f:Nat→Value,(Array.range 0).map f = #[]:=fun f=>by apply Array.ext<;>simp
   rw [e] at r1 ⊢
   exact r1
  simp only [show ¬ (0 > 2 ^ 24) by omega,if_false,if_true,Sem.run_bind,Sem.run_pure,Result.andThen_ok,r1', jB]
 ·have hne:len * n0≠0:=by
   have:=Nat.mul_pos c4 c3;omega
  simp only [show ¬ (len * n0 > 2 ^ 24) by omega,if_false,hne,Sem.run_bind,Sem.run_pure,Result.andThen_ok,hv,r1,jB]
@[go_sem] def amake (P:Program) (t:TypeId) (l:Int) (fresh:Nat):Option Res :=
  match bw P t with
  | some e=>match aY P e,en P e,dA P e with
    | some n0,some nb,some z =>
      if 0≤l∧(nb:Int) * l≤281474976710656∧l≤9223372036854775807∧0 < n0∧z.length=n0 then
       some ⟨.sl fresh 0 l.toNat,[(fresh,.unused)],[(fresh,.live ⟨n0,e,List.replicate l.toNat (z.map .val)⟩)]⟩
      else none
    | _,_,_=>none
  | none=>none
theorem tF {s:List AV} {o:Oper} {t:TypeId} {x y:Operand} (ho:o.op = .makeSlice t x y) {k k' : IntKind} {l:Int} (hx:ae s x = .val (.int k l)) (hy:ae s y = .val (.int k' l)) {fresh:Nat} {r:Res} (h:amake P t l fresh=some r):OpL P o s r:=by
 unfold amake at h
 split at h
 case h_2=>cases h
 rename_i e he
 split at h
 case h_2=>cases h
 rename_i n0 nb z hn hnb hz
 split at h
 case isFalse=>cases h
 rename_i hc
 obtain ⟨c1,c2,c3,c4,c5⟩:=hc
 cases h
 obtain ⟨inf,z0,hinf,i1,i2,i3,i4⟩:=lG hn hnb hz
 intro h hrd m w a rel hop
 have hu:h fresh = .unused:=hrd (fresh,.unused) (by simp)
 have h1:=hop x (by simp [ho,Op.operands])
 have h2:=hop y (by simp [ho,Op.operands])
 rw [hx] at h1
 rw [hy] at h2
 have hrun:=run_make (P:=P) w t e inf z0 (di he) hinf i3 k k' l l c1 (by omega) (by rw [i2];exact c2) c3
 have hcz:z0.cells=z.toArray:=by
  obtain ⟨v,hv,hcs⟩:=ig hz w
  simp [zeroValue,typeInfo,hinf,i3] at hv
  rw [hv];exact hcs
 have rl:(List.replicate l.toNat (z.map AV.val)).length=l.toNat:=by simp
 have A:=rel.alloc (w' := w.alloc (.cells (madeCells z0.cells (l.toNat * inf.size)) e)) hu ⟨n0,e,List.replicate l.toNat (z.map .val)⟩ _ rfl rfl rfl rfl (by simp [size_madeCells,i1]) (fun row hr=>by rw [(List.mem_replicate.1 hr).2];simp [c5]) (fun i j row c p q=>by
  have hi:i < l.toNat:=by
   have:=(List.getElem?_eq_some_iff.1 p).1
   simpa using this
  rw [List.getElem?_replicate,if_pos hi] at p
  cases p
  simp only [List.getElem?_map,Option.map_eq_some_iff] at q
  obtain ⟨u,hu1,rfl⟩:=q
  have hj:j < n0:=by rw [← c5];exact (List.getElem?_eq_some_iff.1 hu1).1
  have hmul:=Nat.mul_le_mul_right n0 (show i + 1≤l.toNat from hi)
  rw [Nat.add_mul,Nat.one_mul] at hmul
  refine ⟨u,?_,.val u⟩
  have hlt:i * n0 + j < l.toNat * n0:=by omega
  have hmod:(i * n0 + j) % n0=j:=by rw [Nat.mul_comm,Nat.mul_add_mod,Nat.mod_eq_of_lt hj]
  obtain ⟨hj2,hju⟩:=List.getElem?_eq_some_iff.1 hu1
  simp [madeCells,i1,hlt,hcz,c5,hmod]
  rw [hu1];rfl)
 refine ⟨_,.slice (some ⟨w.heap.size,0,none⟩) l.toNat l.toNat,_,_,?_,.inl rfl,A.1,A.2,?_⟩
 ·simp [execOp,ho,h1.val_inv,h2.val_inv,hrun]
 ·have key:=R.sl (m:=m.at fresh (w.heap.size,0)) (h:=h.upd fresh (.live ⟨n0,e,List.replicate l.toNat (z.map .val)⟩)) (w:=w.alloc (.cells (madeCells z0.cells (l.toNat * inf.size)) e)) fresh 0 l.toNat ⟨n0,e,List.replicate l.toNat (z.map .val)⟩ (Hp.upd_same _ _ _) 0 l.toNat (by simp) (Nat.le_refl _) (by unfold maxLen;omega) (by simp [Nm.at_same]) (by
   intro cur e' f hcc _
   rw [Nm.at_same,heap_alloc_new] at hcc
   cases hcc
   rw [Nm.at_same];simp [size_madeCells,i1])
  rw [Nm.at_same] at key
  exact key
theorem wJ {s:List AV} {o:Oper} {f:FuncId} {caps:Array Operand} (ho:o.op = .makeFunc (.func f) #[] caps):OpL P o s ⟨.clo f (caps.toList.map (ae s)),[],[]⟩ :=
 OpL.pure fun m hh w a rel hop=>by
  refine ⟨.func (.func f) #[] (caps.map a.eval),by simp [execOp,ho,Instr.makeFunc],.clo _ _ _ (by simp) fun i c v h1 h2=>?_⟩
  simp only [List.getElem?_map,Option.map_eq_some_iff,Array.getElem?_map] at h1 h2
  obtain ⟨x,hx,rfl⟩:=h1
  obtain ⟨y,hy,rfl⟩:=h2
  have hx' : caps[i]?=some x:=by simpa using hx
  rw [hx'] at hy
  cases hy
  exact hop x (by simp [ho,Op.operands];exact Array.mem_of_getElem? hx')
end
section
variable {P:Program}
@[go_sem] def aput (sl:List AV) (d:Option Tmp) (v:AV):List AV:=match d with|some d=>sl.set d v|none=>sl
def OpW (P:Program) (o:Oper) (s:List AV) (rd T:List (Nat × Own)) (av:AV):Prop :=
 ∀ (h:Hp) (m:Nm) (w:World) (a:Act) (K:Act→World→Prop) (Q:Exit→Act→World→Prop),(∀ p∈rd,h p.1=p.2)→Rel m h w→(∀ x∈o.op.operands,R m h w (ae s x) (a.eval x)) →
  (∀ v m' w', Rel m' (h.upds T) w' → Ev m h w m' (h.upds T) w' → R m' (h.upds T) w' av v→K (a.put o.dst v) w')→o.wp P a w K Q
theorem OpL.w {o:Oper} {s:List AV} {r:Res} (H:OpL P o s r):OpW P o s r.rd r.T r.av:=by
 intro h m w a K Q hrd rel hop hK
 obtain ⟨nx,v,m', w', hrun,hnx,h1,h2,h3⟩:=H h hrd m w a rel hop
 unfold Oper.wp
 rw [hrun]
 rcases hnx with rfl|⟨rfl,rfl⟩
 ·exact hK v m' w' h1 h2 h3
 ·exact hK undef m' w' h1 h2 h3
@[go_sem] def awanted (all:List Oper) (o:Oper) (sl:List AV):Option Bool :=
  match o.guard with
  | none=>some true
  | some (j,want) =>
    match (all[j]?).bind (·.dst) with
    | some d=>match sl.getD d (.val undef) with
      | .val (.bool g)=>some (g == want)
      | .val (.tuple _)=>some false
      | _=>none
    | none=>some false
theorem dE {m:Nm} {h:Hp} {w:World} {all:List Oper} {o:Oper} {sl:List AV} {a:Act} {b:Bool} (hw:awanted all o sl=some b)
 (hs : ∀ t∈o.looksAt all.toArray,R m h w (sl.getD t (.val undef)) (a.tmps.getD t undef)):Region.wanted o (yielded all.toArray a.tmps)=b:=by
 unfold awanted at hw
 unfold Region.wanted
 split at hw
 ·rename_i hg;rw [hg];cases hw;rfl
 ·rename_i j want hg
  rw [hg]
  simp only [yielded,List.getElem?_toArray]
  split at hw
  ·rename_i d hd
   have hmem:d∈o.looksAt all.toArray:=by
    unfold Oper.looksAt
    rw [hg]
    simp only [List.getElem?_toArray,hd]
    simp
   have hR:=hs d hmem
   rw [hd]
   simp only [Option.bind_some]
   split at hw
   ·rename_i g e
    rw [e] at hR
    have hv:=hR.val_inv
    cases hw
    have hlt:d < a.tmps.size:=by
     rcases Nat.lt_or_ge d a.tmps.size with h|h
     ·exact h
     ·simp [Array.getD,Nat.not_lt.2 h,undef] at hv
    have:a.tmps[d]?=some (.bool g):=by
     rw [Array.getElem?_eq_getElem hlt]
     simp [Array.getD,hlt] at hv
     rw [hv]
    rw [this]
    cases g<;>cases want<;>rfl
   ·rename_i us e
    rw [e] at hR
    have hv:=hR.val_inv
    cases hw
    cases hq:a.tmps[d]? with
    | none=>rfl
    | some u =>
      have hlt:d < a.tmps.size:=(Array.getElem?_eq_some_iff.1 hq).1
      have:u = .tuple us:=by
       simp [Array.getD,hlt] at hv
       rw [Array.getElem?_eq_getElem hlt] at hq
       cases hq;exact hv
      subst this
      rfl
   ·cases hw
  ·rename_i hd;cases hw;rw [hd];rfl
structure PStep where
 w:Bool
 av:AV
 rd:List (Nat × Own)
 T:List (Nat × Own)
 deriving Inhabited
def PStep.val (p:PStep):AV:=if p.w then p.av else .val undef
def PStep.rids (p:PStep):List Nat:=if p.w then p.rd.map (·.1) else []
def PStep.wids (p:PStep):List Nat:=if p.w then p.T.map (·.1) else []
inductive Plan (P:Program) (all:List Oper):List Oper→List AV→Hp→List PStep→List AV→Hp→Prop
 | nil (sl:List AV) (h:Hp):Plan P all [] sl h [] sl h
 | cons (o:Oper) (rest:List Oper) (sl:List AV) (h:Hp) (p:PStep) (ps:List PStep) (sl' : List AV) (h' : Hp) (hw:awanted all o sl=some p.w) (hok:p.w=true→OpW P o sl p.rd p.T p.av ∧ ∀ q∈p.rd,h q.1=q.2)
  (hrest:Plan P all rest (aput sl o.dst p.val) (if p.w then h.upds p.T else h) ps sl' h'):Plan P all (o::rest) sl h (p::ps) sl' h'
theorem SlotsR.put {m m' : Nm} {h h' : Hp} {w w' : World} {sl:List AV} {a:Act} (rel:Rel m h w) (ev:Ev m h w m' h' w') (hs:SlotsR m h w sl a) (hl:sl.length=a.tmps.size) {d:Option Tmp} {av:AV} {v:Value} (hv:R m' h' w' av v) :
 SlotsR m' h' w' (aput sl d av) (a.put d v)∧(aput sl d av).length=(a.put d v).tmps.size:=by
 cases d with
 | none=>exact ⟨fun t=>(hs t).mono rel ev,hl⟩
 | some d =>
   refine ⟨fun t=>?_,by simp [aput,Act.put,hl]⟩
   by_cases ht:t=d
   ·subst ht
    by_cases hlt:t < sl.length
    ·have:(a.put (some t) v).tmps.getD t undef=v:=by simp [Act.put,Array.getD, ← hl,hlt]
     rw [this]
     simpa [aput,List.getD,List.getElem?_set,hlt] using hv
    ·have e1:(a.put (some t) v).tmps.getD t undef=undef:=by simp [Act.put,Array.getD, ← hl,hlt]
     rw [e1]
     simp [aput,List.getD,List.getElem?_set,hlt]
     exact .val _
   ·have e1:(a.put (some d) v).tmps.getD t undef=a.tmps.getD t undef:=by
     simp only [Act.put,Array.getD_eq_getD_getElem?,Array.getElem?_setIfInBounds,if_neg (Ne.symm ht)]
    have e2:(aput sl (some d) av).getD t (.val undef)=sl.getD t (.val undef):=by
     simp [aput,List.getD,List.getElem?_set,Ne.symm ht]
    rw [e1,e2]
    exact (hs t).mono rel ev
structure StR (m:Nm) (sl:List AV) (h:Hp) (a:Act) (w:World):Prop where
 rel:Rel m h w
 slots:SlotsR m h w sl a
 len:sl.length=a.tmps.size
 defers:a.defers=[]
theorem dz (a:Act) (d:Option Tmp) (v:Value):(a.put d v).defers=a.defers:=by cases d<;>rfl
theorem Plan.lex {all:List Oper} {Q:Exit→Act→World→Prop} {sl' : List AV} {h' : Hp} {m0:Nm} {h0:Hp} {w0:World} (rel0:Rel m0 h0 w0) :
 ∀ (rest:List Oper) (k:Nat) (sl:List AV) (h:Hp) (ps:List PStep),rest=all.drop k→Plan P all rest sl h ps sl' h' → ∀ (m:Nm) (a:Act) (w:World),StR m sl h a w→Ev m0 h0 w0 m h w →
  (∀ m' a' w', StR m' sl' h' a' w' → Ev m0 h0 w0 m' h' w' → Q .normal a' w')→wpOps P all.toArray Q ((List.range' k (all.length - k))) a w:=by
 intro rest
 induction rest with
 | nil =>
   intro k sl h ps hk hp m a w st ev hQ
   cases hp
   have:all.length - k=0:=by
    have:=congrArg List.length hk
    simp at this;omega
   rw [this]
   exact hQ m a w st ev
 | cons o rest ih =>
   intro k sl h ps hk hp m a w st ev hQ
   have hlt:k < all.length:=by
    have:=congrArg List.length hk
    simp at this;omega
   have ho:all[k]?=some o:=by
    have:=congrArg (fun l=>l[0]?) hk
    simpa using this.symm
   have hrest:rest=all.drop (k + 1):=by
    have:=congrArg List.tail hk
    simpa using this
   have hr:List.range' k (all.length - k)=k::List.range' (k + 1) (all.length - (k + 1)):=by
    rw [show all.length - k=(all.length - (k + 1)) + 1 by omega,List.range'_succ]
   rw [hr]
   simp only [wpOps,List.getElem?_toArray,ho]
   cases hp with
   | cons _ _ _ _ p ps _ _ hw hok hpr =>
     rw [dE (m:=m) (h:=h) (w:=w) hw (fun t _=>st.slots t)]
     cases hpw:p.w with
     | true =>
       rw [if_pos rfl]
       left
       obtain ⟨hop,hrd⟩:=hok hpw
       refine hop h m w a _ Q hrd st.rel (fun x _=>st.slots.eval x) fun v m' w' r1 e1 R1=>?_
       have sp:=SlotsR.put st.rel e1 st.slots st.len (d:=o.dst) R1
       rw [hpw] at hpr
       simp only [PStep.val,hpw,if_true] at hpr
       exact ih (k + 1) _ _ ps hrest hpr m' _ w' ⟨r1,sp.1,sp.2,by rw [dz];exact st.defers⟩ (ev.trans rel0 e1) hQ
     | false =>
       rw [if_neg (by simp)]
       have sp:=SlotsR.put st.rel (Ev.refl m h w) st.slots st.len (d:=o.dst) (R.val (m:=m) (h:=h) (w:=w) undef)
       rw [hpw] at hpr
       simp only [PStep.val,hpw,Bool.false_eq_true,if_false] at hpr
       exact ih (k + 1) _ _ ps hrest hpr m _ w ⟨st.rel,sp.1,sp.2,by rw [dz];exact st.defers⟩ ev hQ
end
end Go.Proofs.YtceohcbokbalhaaGreat
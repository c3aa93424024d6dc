/- Contracts and plain laws, one behind the other: AhWake, Spoil, SpoilX, AhExact, Arg14Z, TcpM, AhTmr, AhCn, SpoilS, AhiDot, AhTcpA, AhTcpP. Conditions are said at each. -/
import Derived.Test.YtceohcbokbalhaaGreatPkAC
import Derived.Test.YtceohcbokbalhaaGreatAhiC
import Derived.Test.YtceohcbokbalhaaGreatTy
import Derived.Test.YtceohcbokbalhaaGreatPkAA
import Derived.OwnWalk
import Derived.Laws.OwnMore
import Derived.ArgAppend
import Derived.Deep.QuietTactic
import Derived.BigQuiet
import Derived.Test.YtceohcbokbalhaaGreatPkAB
import Derived.Test.YtceohcbokbalhaaGreatAhRef
namespace Go.Proofs.YtceohcbokbalhaaGreat
open Go.RowKit
set_option linter.unusedVariables false
set_option linter.unusedSimpArgs false
set_option maxRecDepth 100000
set_option maxHeartbeats 4000000
section
variable {f:Int} (hf:0≤f∧f≤4294967295)
include hf
end
open BigFrame
def byK (a b:Value):Prop:=b=a ∨ ∃ x,b = .int .u8 x
def prK (a b:Value):Prop:=b=a∨(∃ k x y,a = .int k x∧b = .int k y)∨(∃ p n c,a = .slice p n c∧b = .slice none 0 0)
theorem byK.trans {a b c:Value} (h:byK a b) (k:byK b c):byK a c:=by
 rcases k with rfl|k
 ·exact h
 ·exact .inr k
theorem prK.trans {a b c:Value} (h:prK a b) (k:prK b c):prK a c:=by
 rcases k with rfl|⟨k,x,y,rfl,rfl⟩|⟨p,n,q,rfl,rfl⟩
 ·exact h
 ·rcases h with h|⟨k', x', y', rfl,h2⟩|⟨p,n,q,rfl,h2⟩
  ·exact .inr (.inl ⟨k,x,y,h.symm,rfl⟩)
  ·cases h2;exact .inr (.inl ⟨_,_,_,rfl,rfl⟩)
  ·cases h2
 ·rcases h with h|⟨k', x', y', rfl,h2⟩|⟨p', n', q', rfl,h2⟩
  ·exact .inr (.inr ⟨p,n,q,h.symm,rfl⟩)
  ·cases h2
  ·exact .inr (.inr ⟨_,_,_,rfl,rfl⟩)
def BlkK (K:Value→Value→Prop) (w w' : World) (g:Nat):Prop :=
 ∀ (cur:Array Value) (e:TypeId),w.heap[g]?=some (.cells cur e (0,0)) → ∃ cur', w'.heap[g]?=some (.cells cur' e (0,0))∧cur'.size=cur.size ∧ ∀ (o:Nat) (v:Value),cur[o]?=some v → ∃ v', cur'[o]?=some v' ∧ K v v'
theorem BlkK.trans {K:Value→Value→Prop} (hK : ∀ a b c,K a b→K b c→K a c) {w1 w2 w3:World} {g:Nat} (a:BlkK K w1 w2 g) (b:BlkK K w2 w3 g):BlkK K w1 w3 g:=by
 intro cur e h
 obtain ⟨c2,h2,s2,k2⟩:=a cur e h
 obtain ⟨c3,h3,s3,k3⟩:=b c2 e h2
 refine ⟨c3,h3,s3.trans s2,fun o v hv=>?_⟩
 obtain ⟨v2,g2,r2⟩:=k2 o v hv
 obtain ⟨v3,g3,r3⟩:=k3 o v2 g2
 exact ⟨v3,g3,hK _ _ _ r2 r3⟩
theorem BlkK.same {K:Value→Value→Prop} (hK : ∀ a,K a a) {w w' : World} {g:Nat} (h:w'.heap[g]?=w.heap[g]?):BlkK K w w' g :=
 fun cur e hc=>⟨cur,h.trans hc,rfl,fun o v hv=>⟨v,hv,hK v⟩⟩
structure Sp (D P:Nat→Prop) (w w' : World):Prop where
 size:w.heap.size≤w'.heap.size
 os:w'.os=w.os
 tape:w'.tape=w.tape
 output:w'.output=w.output
 far : ∀ g,g < w.heap.size → ¬ D g → ¬ P g→w'.heap[g]?=w.heap[g]?
 byt : ∀ g,D g→BlkK byK w w' g
 prt : ∀ g,P g→BlkK prK w w' g
theorem Sp.refl (D P:Nat→Prop) (w:World):Sp D P w w:=⟨Nat.le_refl _,rfl,rfl,rfl,fun _ _ _ _=>rfl,fun _ _ => .same (fun _ => .inl rfl) rfl,fun _ _ => .same (fun _ => .inl rfl) rfl⟩
theorem Sp.trans {D P:Nat→Prop} {a b c:World} (h:Sp D P a b) (k:Sp D P b c):Sp D P a c :=
 ⟨Nat.le_trans h.size k.size,k.os.trans h.os,k.tape.trans h.tape,k.output.trans h.output,fun g hg h1 h2=>(k.far g (Nat.lt_of_lt_of_le hg h.size) h1 h2).trans (h.far g hg h1 h2),
  fun g hg=>BlkK.trans (K:=byK) (fun _ _ _ h k=>byK.trans h k) (h.byt g hg) (k.byt g hg),fun g hg=>BlkK.trans (K:=prK) (fun _ _ _ h k=>prK.trans h k) (h.prt g hg) (k.prt g hg)⟩
theorem gq {w:World} {g:Nat} {cur:Array Value} {e:TypeId} {f:Nat × Nat} (h:w.heap[g]?=some (.cells cur e f)):g < w.heap.size:=(Array.getElem?_eq_some_iff.1 h).1
theorem Sp.new {D P:Nat→Prop} {w w' : World} (hs:w.heap.size≤w'.heap.size) (o1:w'.os=w.os) (o2:w'.tape=w.tape) (o3:w'.output=w.output) (h : ∀ g,g < w.heap.size→w'.heap[g]?=w.heap[g]?):Sp D P w w' :=
 ⟨hs,o1,o2,o3,fun g hg _ _=>h g hg,fun g _=>fun cur e hc=>BlkK.same (fun _ => .inl rfl) (h g (gq hc)) cur e hc,fun g _=>fun cur e hc=>BlkK.same (fun _ => .inl rfl) (h g (gq hc)) cur e hc⟩
theorem Sp.alloc {D P:Nat→Prop} {a w:World} (h:Sp D P a w) (o:Obj):Sp D P a (w.alloc o):=h.trans (.new (by simp) rfl rfl rfl fun g hg=>Below.heap_alloc _ _ _ hg)
theorem Sp.drew {D P:Nat→Prop} {a w:World} (h:Sp D P a w):Sp D P a w.drew:=⟨h.1,h.2,h.3,h.4,h.5,h.6,h.7⟩
theorem Sp.grown {D P:Nat→Prop} {a w w' : World} (h:Sp D P a w) (hg:w.grownBy w' none):Sp D P a w' := h.trans (.new hg.size hg.os hg.tape hg.output fun k hk=>hg.block k hk (by simp))
theorem dL {w:World} {g o:Nat} {cur:Array Value} {e:TypeId} {f:Nat × Nat} (hg:w.heap[g]?=some (.cells cur e f)) (v:Value):(w.setCell ⟨g,o,none⟩ v).heap[g]?=some (.cells (cur.setIfInBounds o v) e f):=by
 simp [World.setCell,Array.getElem?_modify,hg]
theorem BlkK.set {K:Value→Value→Prop} (hr : ∀ a,K a a) {w:World} {g o:Nat} {v:Value} (h : ∀ cur e,w.heap[g]?=some (.cells cur e (0,0)) → ∀ u,cur[o]?=some u→K u v):BlkK K w (w.setCell ⟨g,o,none⟩ v) g:=by
 intro cur e hc
 refine ⟨_,dL hc v,by simp,fun o' u hu=>?_⟩
 by_cases ho:o=o'
 ·subst ho
  have hlt:o < cur.size:=(Array.getElem?_eq_some_iff.1 hu).1
  exact ⟨v,by simp [Array.getElem?_setIfInBounds,hlt],h cur e hc u hu⟩
 ·exact ⟨u,by rw [Array.getElem?_setIfInBounds_ne ho];exact hu,hr u⟩
theorem Sp.setByte {D P:Nat→Prop} {a w:World} (hdp : ∀ g,D g → ¬ P g) (h:Sp D P a w) {g:Nat} (hd:D g) (o:Nat) (x:Int):Sp D P a (w.setCell ⟨g,o,none⟩ (.int .u8 x)):=by
 refine h.trans ⟨by simp [World.setCell],rfl,rfl,rfl,fun g' hg' h1 h2=>Below.heap_setCell _ _ _ _ (by rintro rfl;exact h1 hd),fun g' hg' => ?_,fun g' hg' => .same (fun _ => .inl rfl) (Below.heap_setCell _ _ _ _ (by rintro rfl;exact hdp _ hd hg'))⟩
 by_cases e:g' = g
 ·subst e;exact BlkK.set (fun _ => .inl rfl) fun _ _ _ _ _ => .inr ⟨x,rfl⟩
 ·exact .same (fun _ => .inl rfl) (Below.heap_setCell _ _ _ _ e)
theorem Sp.setPart {D P:Nat→Prop} {a w:World} (hdp : ∀ g,D g → ¬ P g) (h:Sp D P a w) {g:Nat} (hp:P g) (o:Nat) (v:Value) {cur:Array Value} {e:TypeId} {u:Value} (hg:w.heap[g]?=some (.cells cur e (0,0))) (hu:cur[o]?=some u) (hK:prK u v):Sp D P a (w.setCell ⟨g,o,none⟩ v):=by
 refine h.trans ⟨by simp [World.setCell],rfl,rfl,rfl,fun g' hg' h1 h2=>Below.heap_setCell _ _ _ _ (by rintro rfl;exact h2 hp),fun g' hg' => .same (fun _ => .inl rfl) (Below.heap_setCell _ _ _ _ (by rintro rfl;exact hdp _ hg' hp)),fun g' hg' => ?_⟩
 by_cases e2:g' = g
 ·subst e2
  refine BlkK.set (fun _ => .inl rfl) fun c e' hc u' hu' => ?_
  rw [hg] at hc;cases hc
  rw [hu] at hu'; cases hu'
  exact hK
 ·exact .same (fun _ => .inl rfl) (Below.heap_setCell _ _ _ _ e2)
def BySp (D:Nat→Prop) (w:World) (v:Value):Prop :=
 v = .slice none 0 0∨(∃ a,v = .slice (some a) 0 0) ∨ ∃ g off n cap cur e,v = .slice (some ⟨g,off,none⟩) n cap∧D g∧n≤cap∧cap≤maxLen∧n≤100000000∧w.heap[g]?=some (.cells cur e (0,0))∧off + cap≤cur.size ∧ ∀ k,k < n → ∃ x,cur[off + k]?=some (.int .u8 x)
theorem BySp.mono {D P:Nat→Prop} {w w' : World} {v:Value} (h:BySp D w v) (s:Sp D P w w'):BySp D w' v:=by
 rcases h with h|h|⟨g,off,n,cap,cur,e,rfl,hd,h1,h2,h3,h4,h5,h6⟩
 ·exact .inl h
 ·exact .inr (.inl h)
 ·obtain ⟨c,a1,a2,a3⟩:=s.byt g hd cur e h4
  refine .inr (.inr ⟨g,off,n,cap,c,e,rfl,hd,h1,h2,h3,a1,by omega,fun k hk=>?_⟩)
  obtain ⟨x,hx⟩:=h6 k hk
  obtain ⟨v', b1,b2⟩:=a3 _ _ hx
  rcases b2 with rfl|⟨y,rfl⟩
  ·exact ⟨x,b1⟩
  ·exact ⟨y,b1⟩
theorem BySp.wider {D D' : Nat→Prop} (hd : ∀ g,D g→D' g) {w:World} {v:Value} (h:BySp D w v):BySp D' w v:=by
 rcases h with h|h|⟨g,off,n,cap,cur,e,rfl,h0,r⟩
 ·exact .inl h
 ·exact .inr (.inl h)
 ·exact .inr (.inr ⟨g,off,n,cap,cur,e,rfl,hd g h0,r⟩)
theorem ew {Pr:Program} (w:World) {ops:Array Oper} {rest:List Oper} {o:Oper} {a:Act} {Q:Exit→Act→World→Prop}
 (hg:o.guard=none) (s x:Operand) (t:TypeId) (hop:o.op=Op.call { callee:=Callee.builtin Builtin.append,args := #[s,x],argTypes := #[t,t] })
 (e:TypeId) (i:TypeInfo) (z:Value) (h1:Pr.underlying t=some (.slice e)) (h2:Pr.info? e=some i) (h3:i.zero=some z) (h4:i.size=1) (h5:i.bytes=1) (h6:z.cells.size=1)
 {D P:Nat→Prop} (hdp : ∀ g,D g → ¬ P g) {W:World} {v:Value} (hs:a.eval s=v) (hb:BySp D w v) (hsp:Sp D P W w)
 (ad:Addr) (c:Nat) (y:Int) (hx:a.eval x = .slice (some ad) 1 c) (hc:w.cell? ad=some (.int .u8 y))
 (hK : ∀ v' w', Sp D P W w' → wpList Pr ops Q rest (a.put o.dst v') w') :
 wpList Pr ops Q (o::rest) a w:=by
 have hc' : ∀ (j:Nat) (u:Value),[Value.int .u8 y][j]?=some u→w.cell? (ad.add j)=some u:=by
  intro j u hu
  rcases j with _|j
  ·simp at hu;subst hu
   simpa [Addr.add] using hc
  ·simp at hu
 rcases hb with rfl|⟨b,rfl⟩|⟨g,off,n,cap,cur,e', rfl,hd,c1,c2,c3,c4,c5,c6⟩
 ·exact wpList_append_grows w hg s x t hop e i z 1 1 h1 h2 h3 h4 h5 h6 (by decide) none 0 0 [] hs (fun _=>⟨rfl,rfl⟩) rfl (fun b hb=>by cases hb) ad 1 c [.int .u8 y] hx rfl hc' (by simp [Value.oneCell']) (by decide) (by unfold maxLen;omega) (by omega) fun v' w' _ hgr=>hK v' w' (hsp.grown hgr)
 ·exact wpList_append_grows w hg s x t hop e i z 1 1 h1 h2 h3 h4 h5 h6 (by decide) (some b) 0 0 [] hs (fun h=>by cases h) rfl (fun b hb j u hu=>by simp at hu) ad 1 c [.int .u8 y] hx rfl hc' (by simp [Value.oneCell']) (by decide) (by unfold maxLen;omega) (by omega) fun v' w' _ hgr=>hK v' w' (hsp.grown hgr)
 ·have hcell : ∀ k,w.cell? ⟨g,k,none⟩=cur[k]?:=fun k=>by simp [World.cell?,c4]
  refine wpList_append_arg w hg s x t hop e i z 1 1 h1 h2 h3 h4 h5 h6 (by decide) g off n cap ((cur.toList.drop off).take n) hs (by simp;omega) (fun j u hu=>?_) ad 1 c [.int .u8 y] hx rfl hc' (by simp [Value.oneCell']) (fun hr j hj=>?_) (by unfold maxLen at *; omega) (by omega) (fun hr=>?_) (fun _ v' w' _ hgr=>hK v' w' (hsp.grown hgr))
  ·rw [hcell]
   rw [List.getElem?_take] at hu
   split at hu
   ·rw [List.getElem?_drop] at hu
    simpa using hu
   ·cases hu
  ·simp at hj;subst hj
   rw [hcell]
   refine ⟨?_,by simp [World.frozen?,c4]⟩
   rw [Array.getElem?_eq_getElem (by omega)];rfl
  ·exact hK _ _ (hsp.setByte hdp hd _ _)
theorem gB (w:World) (v:Value) (e:TypeId) (f:Nat × Nat):(w.alloc (Obj.cells #[v] e f)).cell? ⟨w.heap.size,0,none⟩=some v:=by
 have h:(w.alloc (Obj.cells #[v] e f)).heap[w.heap.size]?=some (Obj.cells #[v] e f):=Array.getElem?_push_size
 unfold World.cell?
 rw [h]
 rfl
theorem fe (w:World) (c:Array Value) (e:TypeId) (f:Nat × Nat) (o:Nat):(w.alloc (Obj.cells c e f)).cell? ⟨w.heap.size,o,none⟩=c[o]?:=by
 have h:(w.alloc (Obj.cells c e f)).heap[w.heap.size]?=some (Obj.cells c e f):=Array.getElem?_push_size
 unfold World.cell?
 rw [h]
 rfl
theorem jZ {w:World} {g o b o' : Nat} {v:Value} (h:b≠g):(w.setCell ⟨g,o,none⟩ v).cell? ⟨b,o', none⟩=w.cell? ⟨b,o', none⟩:=by
 simp only [World.cell?,Below.heap_setCell w ⟨g,o,none⟩ v b h]
theorem q9 : (Tryz.prog.info? 5).map (fun i=>(i.zero,i.size,i.bytes))=some (some (.int .u8 0),1,1):=by kernel_rfl
set_option maxRecDepth 100000 in
theorem g7 (D P:Nat→Prop) (hdp : ∀ g,D g → ¬ P g) (v:Value) (w:World) (h:BySp D w v):Calls Tryz.prog 44 #[v] w fun e w' => e = .returned (.tuple #[])∧Sp D P w w' := by
 obtain ⟨i0,hi,hz0,hz1,hz2⟩:=info_parts q9
 have HB:=h
 have HS:=Sp.refl D P w
 rcases h with rfl|⟨a,rfl⟩|⟨g,off,n,cap,cur,e,rfl,hd,h1,h2,h3,h4,h5,h6⟩
 ·go_enter Tryz.func44,Tryz.ntmps44
  go_wp2
  refine wp_loop_rounds 1 ?_
  rw [rounds_succ]
  go_wp2_with (at_builtin;refine ew _ rfl _ _ 37 rfl 5 i0 (.int .u8 0) Tryz.underlying37 hi hz0 hz1 hz2 rfl hdp rfl (HB.mono (D:=D) (P:=P) (Sp.alloc (Sp.refl _ _ _) _)) (HS.alloc _) ⟨_,0,none⟩ _ 5 rfl (gB _ _ _ _) ?_;intro v' w1 hsp1)
  go_wp2
  go_end0
  exact ⟨rfl,hsp1⟩
 ·go_enter Tryz.func44,Tryz.ntmps44
  go_wp2
  refine wp_loop_rounds 1 ?_
  rw [rounds_succ]
  go_wp2_with (at_builtin;refine ew _ rfl _ _ 37 rfl 5 i0 (.int .u8 0) Tryz.underlying37 hi hz0 hz1 hz2 rfl hdp rfl (HB.mono (D:=D) (P:=P) (Sp.alloc (Sp.refl _ _ _) _)) (HS.alloc _) ⟨_,0,none⟩ _ 5 rfl (gB _ _ _ _) ?_;intro v' w1 hsp1)
  go_wp2
  go_end0
  exact ⟨rfl,hsp1⟩
 ·have HH:=hid h6
  clear h6 HB
  go_enter Tryz.func44,Tryz.ntmps44
  go_wp2
  go_loopw [2] (fun i wr => ∃ k:Nat,k≤n∧i = .int .i64 k∧Sp D P w wr) (fun i _=>n - (intOf i).toNat)
  case atStart=>exact ⟨0,Nat.zero_le _,rfl,HS⟩
  case round =>
   obtain ⟨k,hk,rfl,hS⟩:=hrel
   clear HS
   have HB:BySp D wr (.slice (some ⟨g,off,none⟩) n cap):=BySp.mono (.inr (.inr ⟨g,off,n,cap,cur,e,rfl,hd,h1,h2,h3,h4,h5,HH.out⟩)) hS
   by_cases hkn:k < n
   ·obtain ⟨cur', x,g1,g2⟩ : ∃ (cur' : Array Value) (x:Int),wr.heap[g]?=some (.cells cur' e (0,0))∧cur'[off + k]?=some (.int .u8 x):=by
     obtain ⟨c,a1,a2,a3⟩:=hS.byt g hd cur e h4
     obtain ⟨y,hy⟩:=HH.out k hkn
     obtain ⟨v', b1,b2⟩:=a3 _ _ hy
     rcases b2 with rfl|⟨z,rfl⟩
     ·exact ⟨c,y,a1,b1⟩
     ·exact ⟨c,z,a1,b1⟩
    have cx:wr.cell? ⟨g,off + k,none⟩=some (.int .u8 x):=by simp [World.cell?,g1,g2]
    have fx:wr.frozen? ⟨g,off + k,none⟩=false:=by simp [World.frozen?,g1]
    have HS:=hid hS
    clear hS HB g1 g2 h4
    go_wp2
    go_roundw
    case rel=>exact ⟨k + 1,by omega,by go_num,HS.out.setByte hdp hd _ _⟩
    case measure=>simp [intOf];omega
   ·have HS:=hS
    clear hS
    clear h4
    go_wp2_with (at_builtin;refine ew _ rfl _ _ 37 rfl 5 i0 (.int .u8 0) Tryz.underlying37 hi hz0 hz1 hz2 rfl hdp rfl (HB.mono (D:=D) (P:=P) (Sp.alloc (Sp.refl _ _ _) _)) (HS.alloc _) ⟨_,0,none⟩ _ 5 rfl (gB _ _ _ _) ?_;intro v' w1 hsp1)
    go_wp2
    go_end0
    exact ⟨rfl,hsp1⟩
def PaSp (D P:Nat→Prop) (w:World) (v:Value):Prop :=
 v = .slice none 0 0∨(∃ a cap,v = .slice (some a) 0 cap) ∨ ∃ g off n cap cur e,v = .slice (some ⟨g,off,none⟩) n cap∧P g∧n≤100000000∧w.heap[g]?=some (.cells cur e (0,0)) ∧ ∀ k,k < n → ∃ x u,cur[off + k * 2]?=some (.int .i64 x)∧cur[off + k * 2 + 1]?=some u∧BySp D w u
theorem PaSp.row {D P:Nat→Prop} {w wr:World} {g off k:Nat} {cur:Array Value} {e:TypeId} {x:Int} {u:Value} (hp:P g) (h1:w.heap[g]?=some (.cells cur e (0,0))) (h2:cur[off + k * 2]?=some (.int .i64 x)) (h3:cur[off + k * 2 + 1]?=some u) (h4:BySp D w u) (S:Sp D P w wr) :
 ∃ cur' y u', wr.heap[g]?=some (.cells cur' e (0,0))∧cur'[off + k * 2]?=some (.int .i64 y)∧cur'[off + k * 2 + 1]?=some u' ∧ BySp D wr u' ∧ ∃ p n c,u' = .slice p n c:=by
 obtain ⟨c,a1,a2,a3⟩:=S.prt g hp cur e h1
 obtain ⟨v1,b1,b2⟩:=a3 _ _ h2
 obtain ⟨v2,c1,c2⟩:=a3 _ _ h3
 have hv1 : ∃ y,v1 = .int .i64 y:=by
  rcases b2 with rfl|⟨k', x', y', e1,e2⟩|⟨p,n,q,e1,e2⟩
  ·exact ⟨x,rfl⟩
  ·cases e1;exact ⟨y', e2⟩
  ·cases e1
 obtain ⟨y,rfl⟩:=hv1
 have hsl : ∃ p n c,u = .slice p n c:=by
  rcases h4 with h|⟨a,h⟩|⟨g', o', n', cap', cu,e', h,_⟩
  ·exact ⟨_,_,_,h⟩
  ·exact ⟨_,_,_,h⟩
  ·exact ⟨_,_,_,h⟩
 rcases c2 with rfl|⟨k', x', y', e1,e2⟩|⟨p,n,q,e1,e2⟩
 ·exact ⟨c,y,v2,a1,b1,c1,h4.mono S,hsl⟩
 ·obtain ⟨p,n,q,hu⟩:=hsl
  rw [e1] at hu;cases hu
 ·exact ⟨c,y,v2,a1,b1,c1,.inl e2,by rw [e2];exact ⟨_,_,_,rfl⟩⟩
theorem PaSp.mono {D P:Nat→Prop} {w w' : World} {v:Value} (h:PaSp D P w v) (s:Sp D P w w'):PaSp D P w' v:=by
 rcases h with h|h|⟨g,off,n,cap,cur,e,rfl,hp,h1,h2,h3⟩
 ·exact .inl h
 ·exact .inr (.inl h)
 ·obtain ⟨c,a1,a2,a3⟩:=s.prt g hp cur e h2
  refine .inr (.inr ⟨g,off,n,cap,c,e,rfl,hp,h1,a1,fun k hk=>?_⟩)
  obtain ⟨x,u,b1,b2,b3⟩:=h3 k hk
  obtain ⟨c', y,u', d1,d2,d3,d4,_⟩:=PaSp.row hp h2 b1 b2 b3 s
  rw [a1] at d1;cases d1
  exact ⟨y,u', d2,d3,d4⟩
theorem Sp.setPiece {D P:Nat→Prop} {a w:World} (hdp : ∀ g,D g → ¬ P g) (h:Sp D P a w) {g:Nat} (hp:P g) {o:Nat} {cur:Array Value} {e:TypeId} {y:Int} {u:Value} (hg:w.heap[g]?=some (.cells cur e (0,0))) (h1:cur[o]?=some (.int .i64 y)) (h2:cur[o + 1]?=some u) (hu : ∃ p n c,u = .slice p n c) (z:Int) :
 Sp D P a ((w.setCell ⟨g,o,none⟩ (.int .i64 z)).setCell ⟨g,o + 1,none⟩ (.slice none 0 0)):=by
 obtain ⟨p,n,c,rfl⟩:=hu
 have s1:=h.setPart hdp hp o (.int .i64 z) hg h1 (.inr (.inl ⟨_,_,_,rfl,rfl⟩))
 exact s1.setPart hdp hp (o + 1) (.slice none 0 0) (dL hg _) (by rw [Array.getElem?_setIfInBounds_ne (by omega)];exact h2) (.inr (.inr ⟨_,_,_,rfl,rfl⟩))
theorem Sp.cellFar {D P:Nat→Prop} {w w' : World} (s:Sp D P w w') {g o:Nat} (h0:g < w.heap.size) (h1 : ¬ D g) (h2 : ¬ P g):w'.cell? ⟨g,o,none⟩=w.cell? ⟨g,o,none⟩:=by
 simp only [World.cell?,s.far g h0 h1 h2]
set_option maxRecDepth 100000 in
theorem rv (D P:Nat→Prop) (hdp : ∀ g,D g → ¬ P g) (nn:Int) (v:Value) (w:World) (hlt : ∀ g,D g∨P g→g < w.heap.size) (h:PaSp D P w v):Calls Tryz.prog 119 #[.agg #[.int .i64 nn,v]] w fun e w' => e = .returned (.tuple #[])∧Sp D P w w' := by
 have HS:=Sp.refl D P w
 rcases h with rfl|⟨a,cap,rfl⟩|⟨g,off,n,cap,cur,e,rfl,hp,h1,h2,h3⟩
 ·clear hlt
  go_enter Tryz.func119,Tryz.ntmps119
  go_wp2
  refine wp_loop_rounds 1 ?_
  rw [rounds_succ]
  go_wp2
  go_end0
  exact ⟨rfl,HS.alloc _⟩
 ·clear hlt
  go_enter Tryz.func119,Tryz.ntmps119
  go_wp2
  refine wp_loop_rounds 1 ?_
  rw [rounds_succ]
  go_wp2
  go_end0
  exact ⟨rfl,HS.alloc _⟩
 ·have hg:=hlt g (.inr hp)
  have nd : ¬ D w.heap.size:=fun h=>absurd (hlt _ (.inl h)) (by omega)
  have np : ¬ P w.heap.size:=fun h=>absurd (hlt _ (.inr h)) (by omega)
  have HH:=hid h3
  have HL:=hid hlt
  clear h3 hlt
  go_enter Tryz.func119,Tryz.ntmps119
  go_wp2
  go_loopw [2] (fun i wr => ∃ k:Nat,k≤n∧i = .int .i64 k∧Sp D P w wr∧wr.cell? ⟨w.heap.size,1,none⟩=some (.slice (some ⟨g,off,none⟩) n cap)∧w.heap.size < wr.heap.size) (fun i _=>n - (intOf i).toNat)
  case atStart=>exact ⟨0,Nat.zero_le _,rfl,HS.alloc _,(fe _ _ _ _ 1).trans rfl,by simp⟩
  case round =>
   obtain ⟨k,hk,rfl,hS,hbx,hsz⟩:=hrel
   by_cases hkn:k < n
   ·obtain ⟨x,u,r1,r2,r3⟩:=HH.out k hkn
    obtain ⟨cur', y,u', g1,g2,g3,g4,p,m,c,rfl⟩:=PaSp.row hp h2 r1 r2 r3 hS
    have cr:wr.cell? ⟨g,off + k * 2 + 1,none⟩=some (.slice p m c):=by simp [World.cell?,g1,g3]
    have C:=hid (g7 D P hdp _ wr g4)
    have K:=hid (fun (w2:World) (S2:Sp D P wr w2)=>PaSp.row hp h2 r1 r2 r3 (hS.trans S2))
    have H1:=hid hS
    clear hS g1 g2 g3 g4 r1 r2 r3 h2
    go_wp2_with (go_at_call 44;(with_reducible refine (C.out).mono ?_);rintro e2 w2 ⟨rfl,S2⟩;have hbx2:=(S2.cellFar (o:=1) hsz nd np).trans hbx;obtain ⟨cur2,y2,u2,q1,q2,q3,q4,q5⟩:=K.out w2 S2;have f1:w2.cell? ⟨g,off + k * 2,none⟩=some (.int .i64 y2):=(by simp [World.cell?,q1,q2]);have f2:w2.cell? ⟨g,off + k * 2 + 1,none⟩=some u2:=(by simp [World.cell?,q1,q3]);have f3:w2.frozen? ⟨g,off + k * 2,none⟩=false:=(by simp [World.frozen?,q1]);have f4:w2.frozen? ⟨g,off + k * 2 + 1,none⟩=false:=(by simp [World.frozen?,q1]);have Z:=hid (Sp.setPiece hdp (H1.out.trans S2) hp q1 q2 q3 q5 (-9));have Z2:=hid S2.size;clear S2 q1 q2 q3 q4 q5)
    go_roundw
    case rel=>exact ⟨k + 1,by omega,by go_num,Z.out,by rw [jZ (by omega),jZ (by omega)];exact hbx2,by have:=Z2.out;simp [World.setCell];omega⟩
    case measure=>simp [intOf];omega
   ·go_wp2
    go_end0
    exact ⟨rfl,hS⟩
theorem Rel.spoil {m:Nm} {h:Hp} {w w' : World} (rel:Rel m h w) {D P:Nat→Prop} (h' : Hp) (hU : ∀ id,h' id=h id∨(h id = .uniq∧h' id = .dead)) (hD : ∀ g,D g∨P g → ∃ r,h r = .uniq∧h' r = .dead∧m.set r g) (S:Sp D P w w'):Rel m h' w' ∧ Ev m h w m h' w' := by
 have live : ∀ id k,h' id = .live k→h id = .live k:=fun id k hk=>by
  rcases hU id with e|⟨_,e⟩
  ·rw [← e];exact hk
  ·rw [hk] at e;cases e
 have imm : ∀ r,(h' r).imm→h' r=h r:=fun r hr=>by
  rcases hU r with e|⟨_,e⟩
  ·exact e
  ·rw [e] at hr;exact hr.elim
 have farL : ∀ id k,h id = .live k→w'.heap[(m.pl id).1]?=w.heap[(m.pl id).1]?:=fun id k hk=>by
  have hlt:(m.pl id).1 < w.heap.size:=by
   obtain ⟨c,hc,_⟩:=rel.own id k hk
   exact (Array.getElem?_eq_some_iff.1 hc).1
  have no : ¬ (D (m.pl id).1∨P (m.pl id).1):=fun hh=>by
   obtain ⟨r,h1,_,h3⟩:=hD _ hh
   exact rel.sepR id k r hk (by rw [h1];trivial) h3
  exact S.far _ hlt (fun h=>no (.inl h)) (fun h=>no (.inr h))
 have ev:Ev m h w m h' w' := by
  refine ⟨fun _ _=>rfl,fun _ _=>rfl,fun id=>?_,S.size,fun id k k' h1 h2 cur e f hc=>⟨cur,e,f,by rw [← farL id k h1];exact hc,rfl⟩,fun g hg ho hu=>?_,fun id k h1 h2=>?_,fun id g h1 h2=>?_,S.os,S.tape,S.output⟩
  ·rcases hU id with e|⟨e1,e⟩
   ·rw [e];exact Own.goes_refl _
   ·rw [e,e1];trivial
  ·have no : ¬ (D g∨P g):=fun hh=>by
    obtain ⟨r,h1,h2,h3⟩:=hD _ hh
    have:=hu r h1 h3
    rw [h2] at this;cases this
   exact S.far _ hg (fun h=>no (.inl h)) (fun h=>no (.inr h))
  ·have:=live id k h2;rw [h1] at this;cases this
  ·have:=imm id (by rw [h2];trivial)
   rw [h2,h1] at this;cases this
 refine ⟨⟨fun id k hk=>?_,fun id id' k k' h1 h2 e=>rel.sep id id' k k' (live _ _ h1) (live _ _ h2) e,fun id k r h1 h2=>?_,fun r r' g h1 h2 hne hs=>?_,fun r g h1 hs=>?_,fun r g h1 hs=>?_⟩,ev⟩
 ·have h0:=live id k hk
  obtain ⟨cur,h1,h2,h3,h4⟩:=rel.own id k h0
  exact ⟨cur,by rw [farL id k h0];exact h1,h2,h3,fun i j row c a b=>let ⟨v,x,y⟩:=h4 i j row c a b;⟨v,x,y.mono rel ev⟩⟩
 ·have e:=imm r h2
  exact rel.sepR id k r (live _ _ h1) (by rw [← e];exact h2)
 ·have e1:=imm r (by rw [h1];trivial)
  have e2:=imm r' h2
  exact rel.sepU r r' g (by rw [← e1];exact h1) (by rw [← e2];exact h2) hne hs
 ·have e1:=imm r h1
  exact Nat.lt_of_lt_of_le (rel.bound r g (by rw [← e1];exact h1) hs) S.size
 ·have e1:=imm r (by rw [h1];trivial)
  have hr:h r = .uniq:=by rw [← e1];exact h1
  have no : ¬ (D g∨P g):=fun hh=>by
   obtain ⟨r2,h3,h4,h5⟩:=hD _ hh
   have hne:r2≠r:=by rintro rfl;rw [h1] at h4;cases h4
   exact rel.sepU r2 r g h3 (by rw [hr];trivial) hne h5 hs
  rw [S.far _ (rel.bound r g (by rw [hr];trivial) hs) (fun h=>no (.inl h)) (fun h=>no (.inr h))]
  exact rel.free r g hr hs
theorem BySp.ofR {m:Nm} {h:Hp} {w:World} (rel:Rel m h w) {r:Nat} (hr:h r = .uniq) {xs:List Int} (hx:xs.length≤100000000) {v:Value} (hR:R m h w (gL r xs) v):BySp (m.set r) w v:=by
 have lx:(xs.map bR).length=xs.length:=by simp
 rcases R.glist_inv (by rw [hr];trivial) hR with ⟨_,rfl⟩|⟨_,a,rfl⟩|⟨g,off,cap,rfl,hg,hc,hm,hw,hz,f,hf,hRR⟩
 ·exact .inl rfl
 ·exact .inr (.inl ⟨a,rfl⟩)
 ·rw [lx] at hc ⊢
  by_cases h0:cap=0
  ·subst h0
   have:xs.length=0:=by omega
   rw [this]
   exact .inr (.inl ⟨_,rfl⟩)
  ·obtain ⟨cur,e,hcur⟩:=rel.free r g hr hg
   have hs:=hz h0 cur e (0,0) hcur
   refine .inr (.inr ⟨g,off,xs.length,cap,cur,e,rfl,hg,hc,hm,hx,hcur,by omega,fun k hk=>?_⟩)
   have hrow:(xs.map bR)[k]?=some [.val (.int .u8 xs[k])]:=by simp [hk]
   have h1:=hf k 0 _ (.val (.int .u8 xs[k])) hrow rfl
   have h2:=hRR k 0 _ (.val (.int .u8 xs[k])) hrow rfl
   have e1:=h2.val_inv
   rw [e1] at h1
   refine ⟨xs[k],?_⟩
   simpa [World.cell?,hcur] using h1
theorem PaSp.ofR {m:Nm} {h:Hp} {w:World} (rel:Rel m h w) {r r' : Nat} (hr:h r = .uniq) (hr' : h r' = .uniq) {ps:List Pt} (hp:dq ps) {v:Value} (hR:R m h w (.list r 2 (ps.map (prg r'))) v):PaSp (m.set r') (m.set r) w v:=by
 have lp:(ps.map (prg r')).length=ps.length:=by simp
 generalize hrows:ps.map (prg r')=rows at hR lp
 cases hR with
 | nil=>exact .inl rfl
 | emp _ _ cap a hi hm=>exact .inr (.inl ⟨a,cap,rfl⟩)
 | listD _ _ _ _ hd _=>rw [hr] at hd;cases hd
 | list _ _ _ hi g off cap hg hc hm hw f hf hRR =>
   obtain ⟨cur,e,hcur⟩:=rel.free r g hr hg
   refine .inr (.inr ⟨g,off,rows.length,cap,cur,e,rfl,hg,by rw [lp];exact hp.1,hcur,fun k hk=>?_⟩)
   rw [lp] at hk
   have hrow:rows[k]?=some (prg r' ps[k]):=by rw [← hrows];simp [hk]
   have h1:=hf k 0 _ (.val (.int .i64 ps[k].1)) hrow rfl
   have h2:=hRR k 0 _ (.val (.int .i64 ps[k].1)) hrow rfl
   rw [h2.val_inv] at h1
   have h3:=hf k 1 _ (gL r' ps[k].2) hrow rfl
   have h4:=hRR k 1 _ (gL r' ps[k].2) hrow rfl
   refine ⟨ps[k].1,f k 1,?_,?_,BySp.ofR rel hr' (hp.2 _ (List.getElem_mem hk)) h4⟩
   ·simpa [World.cell?,hcur] using h1
   ·simpa [World.cell?,hcur] using h3
theorem R.tup0 {m:Nm} {h:Hp} {w:World} : R m h w (.tup []) (.tuple #[]) := .tup _ _ rfl (by simp)
def wgo:Int→List Pt→Int
 | n,[]=>n
 | n,p::ps=>if n < 1048576 then wgo (n + 1 + p.2.length) ps else n
theorem lj : ∀ (ps:List Pt) (n:Int),n≤wgo n ps
 | [],n=>Int.le_refl _
 | p::ps,n=>by
   unfold wgo
   split
   ·have:=lj ps (n + 1 + p.2.length);omega
   ·exact Int.le_refl _
theorem rj : ∀ (ps:List Pt) (n:Int),0≤n→wgo n ps≤30000→n + ps.length≤30000 ∧ ∀ p∈ps,p.2.length≤30000
 | [],n,h0,h=>⟨by simpa [wgo] using h,by simp⟩
 | p::ps,n,h0,h=>by
   unfold wgo at h
   split at h
   ·obtain ⟨h1,h2⟩:=rj ps _ (by omega) h
    refine ⟨by simp;omega,fun q hq=>?_⟩
    rcases List.mem_cons.1 hq with rfl|hq
    ·omega
    ·exact h2 q hq
   ·omega
theorem ug {ps:List Pt} {k:Nat} {p:Pt} {n g:Int} (h:ps[k]?=some p) (hn:n < 1048576) (hg:wgo n (ps.drop k)=g):wgo (n + 1 + p.2.length) (ps.drop (k + 1))=g:=by
 rw [bI h,wgo,if_pos hn] at hg;exact hg
theorem uw {ps:List Pt} {k:Nat} {n g:Int} (hk:k < ps.length) (hn : ¬ n < 1048576) (hg:wgo n (ps.drop k)=g):n=g:=by
 rw [bI (List.getElem?_eq_getElem hk),wgo,if_neg hn] at hg;exact hg
def xB (ps:List Pt):Prop:=ps.length≤140737488351232 ∧ ∀ p∈ps,p.2.length≤140737488351232
theorem k9:Tryz.prog.cellsOf 88=2:=by kernel_rfl
theorem oO:Tryz.prog.cellsOf 44=1:=by kernel_rfl
theorem tc:Tryz.prog.bytesOf 88=32:=by kernel_rfl
theorem iQ:Tryz.prog.cellsOf 46=2:=by kernel_rfl
theorem vQ {q:Nat} {avs:List AV} (h:TyZV Tryz.prog (q + 3) 88 avs) : ∃ p:Pt,avs=prt 0 p∧isBs p.2:=by
 unfold TyZV at h
 rw [Tryz.underlying88] at h
 obtain ⟨hl,hx⟩:=h
 rw [k9] at hl
 match avs,hl with
 | [c0,c1],_ =>
   simp only [List.forall_mem_cons,dO,fh,List.drop,List.take] at hx
   obtain ⟨h0,h1, -⟩:=hx
   obtain ⟨i,e0,b0⟩:=bu h0
   obtain ⟨x,e1,b1⟩:=iC h1
   simp only [List.cons.injEq,and_true] at e0 e1
   subst e0 e1
   exact ⟨(i,x),rfl,b1⟩
theorem ti {q:Nat} {avs:List AV} (h:TyZV Tryz.prog (q + 4) 44 avs) : ∃ ps:List Pt,avs=[.list 0 2 (ps.map (prt 0))]∧ps.length≤140737488351232 ∧ ∀ p∈ps,isBs p.2:=by
 unfold TyZV at h
 rw [Tryz.underlying44] at h
 obtain ⟨rows,e,_,hz,hr⟩:=h
 obtain ⟨xs,rfl,hx⟩:=eS (f:=prt 0) (fun row (h:_∧_)=>vQ (q:=q) h.2) rows hr
 rw [tc,List.length_map] at hz
 exact ⟨xs,by rw [e,k9],by have:=iD;omega,hx⟩
theorem ta {q:Nat} {avs:List AV} (h:TyZV Tryz.prog (q + 5) 46 avs) : ∃ (n:Int) (ps:List Pt),avs=[.val (.int .i64 n),.list 0 2 (ps.map (prt 0))]∧ps.length≤140737488351232 ∧ ∀ p∈ps,isBs p.2:=by
 unfold TyZV at h
 rw [Tryz.underlying46] at h
 obtain ⟨hl,hx⟩:=h
 rw [iQ] at hl
 match avs,hl with
 | [c0,c1],_ =>
   simp only [List.forall_mem_cons,dO,oO,List.drop,List.take] at hx
   obtain ⟨h0,h1, -⟩:=hx
   obtain ⟨i,e0,b0⟩:=bu h0
   obtain ⟨ps,e1,b1,b2⟩:=ti h1
   simp only [List.cons.injEq,and_true] at e0 e1
   subst e0 e1
   exact ⟨i,ps,rfl,b1,b2⟩
structure Tm where
 on:Bool
 left:Int
 wait:Int
 tries:Int
 deriving DecidableEq
def tm0:Tm:=⟨false,0,0,0⟩
def ba (n:Int):Tm:=⟨true,n,n,0⟩
structure Cn where
 link:Int
 ip:Int
 pp:Int
 port:Int
 st:Int
 una:Int
 nx:Int
 win:Int
 out:List Int
 inx:Int
 parts:List Pt
 closing:Bool
 tm:Tm
 deriving DecidableEq
structure Sg where
 sp:Int
 dp:Int
 seq:Int
 ack:Int
 fl:Int
 win:Int
 data:List Int
 deriving DecidableEq
structure Stp where
 c:Cn
 out:List Sg
 told:List Int
def Cn.sent (c:Cn):Int:=ah c.nx c.una
def Cn.len (c:Cn):Int:=c.out.length
def tmB (t:Tm):Bool:=decide (0≤t.left∧t.left≤48∧0≤t.wait∧t.wait≤48∧0≤t.tries∧t.tries≤8) && (t.on || t.left == 0)
def eqTm (a b:Tm):Bool:=a.on == b.on && (a.left == b.left && (a.wait == b.wait && (a.tries == b.tries && true)))
def numB (c:Cn):Bool :=
 bif c.st == 0 then (((c.out.length:Int) == 0) && (((c.parts.length:Int) == 0) && eqTm c.tm tm0))
 else bif c.st == 1 then (c.sent == 1)
 else bif (c.st == 4 || c.st == 8) then (c.closing && ((c.sent == 0) && ((c.out.length:Int) == 0)))
 else bif (c.st == 3 || (c.st == 6 || c.st == 7)) then (c.closing && (c.sent == (c.out.length:Int) + 1))
 else (decide (0≤c.sent) && decide (c.sent≤(c.out.length:Int)))
def cnB (c:Cn):Bool :=
 am c.link 1099511627776 && (am c.ip 4294967295 && (am c.pp 65535 && (am c.port 65535 && (!decide (c.st < 0) && (!decide (8 < c.st) && (am c.una 4294967295 && (am c.nx 4294967295 && (am c.win 65535 &&
  (!decide (8192 < (c.out.length:Int)) && (mayB c.inx c.parts && (tmB c.tm && numB c)))))))))))
def sgB (s:Sg):Bool:=am s.sp 65535 && (am s.dp 65535 && (am s.seq 4294967295 && (am s.ack 4294967295 && (am s.fl 63 && (am s.win 65535 && decide (s.data.length≤1460))))))
def Stp.seg (s:Stp) (seq fl:Int) (data:List Int):Stp := { s with out:=s.out ++ [⟨s.c.port,s.c.pp,seq,s.c.inx,fl,2048,data⟩] }
def Stp.acks (s:Stp):Stp:=s.seg s.c.nx 16 []
def Cn.shut (c:Cn):Cn := { c with st:=0,out:=[],parts:=[],tm:=tm0 }
def Stp.shut (s:Stp):Stp := { s with c:=s.c.shut }
def Cn.pumpN (c:Cn):Int:=min 536 (min (c.len - c.sent) (c.win - c.sent))
def Stp.pump1 (s:Stp):Stp :=
 { c := { s.c with nx:=wadd s.c.nx s.c.pumpN }, out:=s.out ++ [⟨s.c.port,s.c.pp,s.c.nx,s.c.inx,24,2048,(s.c.out.drop s.c.sent.toNat).take s.c.pumpN.toNat⟩],told:=s.told }
def pumpGo:Nat→Stp→Stp
 | 0,s=>s
 | k + 1,s=>if s.c.pumpN≤0 then s else pumpGo k s.pump1
def Stp.pump2 (s:Stp):Stp :=
 if s.c.closing=true∧s.c.sent=s.c.len then
  { c := { s.c with nx:=wadd s.c.nx 1,st:=if s.c.st=2 then 3 else 7 }, out:=s.out ++ [⟨s.c.port,s.c.pp,s.c.nx,s.c.inx,17,2048,[]⟩],told:=s.told }
 else s
def Stp.pump3 (s:Stp):Stp:=if s.c.tm.on=false∧(0 < s.c.sent∨s.c.sent < s.c.len) then { s with c := { s.c with tm:=ba 3 } } else s
def Stp.pump (s:Stp):Stp:=(pumpGo s.c.out.length s).pump2.pump3
def Cn.talks (c:Cn):Bool:=c.st == 2 || c.st == 5
def eO (st:Int):Bool:=decide (st=3∨st=4∨st=6∨st=7∨st=8)
def flN (fl b:Int):Bool:=bits .and .i64 fl b == 0
def Sg.len (m:Sg):Int:=(m.data.length:Int) + (bif flN m.fl 2 then 0 else 1) + (bif flN m.fl 1 then 0 else 1)
def Cn.accepts (c:Cn) (m:Sg):Bool:=decide (woff m.seq c.inx < 2048) || (decide (0 < m.len) && decide (woff (wadd m.seq (m.len - 1)) c.inx < 2048))
def Cn.ackC (c:Cn) (m:Sg):Cn := { c with win:=m.win,out:=c.out.drop (min (ah m.ack c.una) c.out.length).toNat,una:=m.ack,tm:=tm0 }
def Stp.ack (s:Stp) (m:Sg):Stp × Bool :=
 bif s.c.st == 1 then
  bif m.ack == s.c.nx then ({ s with c := { s.c with una:=s.c.nx,st:=2,tm:=tm0,win:=m.win } }, true)
  else ({ s with out:=s.out ++ [⟨s.c.port,s.c.pp,m.ack,0,4,0,[]⟩] }, false)
 else bif decide (0 < ah m.ack s.c.nx) then (s.acks,false)
 else bif decide (ah m.ack s.c.una≤0) then ({ s with c := { s.c with win:=m.win } }, true)
 else bif eO s.c.st && (ah s.c.nx m.ack == 0) then
  bif s.c.st == 3 then ({ s with c := { s.c.ackC m with st:=4 } }, true)
  else bif s.c.st == 6 then ({ s with c := { s.c.ackC m with st:=8,tm:=ba 20 } }, true)
  else bif s.c.st == 7 then ({ s with c:=(s.c.ackC m).shut }, true)
  else ({ s with c:=s.c.ackC m }, true)
 else ({ s with c:=s.c.ackC m }, true)
def Cn.hears (c:Cn):Bool:=c.st == 2 || (c.st == 3 || c.st == 4)
def Stp.dataFin (s:Stp) (m:Sg):Stp :=
 bif flN m.fl 1 then s
 else bif wadd m.seq m.data.length == s.c.inx then
  bif decide (0 < (s.c.parts.length:Int)) then s
  else bif s.c.st == 2 then { s with c := { s.c with inx:=wadd s.c.inx 1,st:=5 } }
  else bif s.c.st == 3 then { s with c := { s.c with inx:=wadd s.c.inx 1,st:=6 } }
  else { s with c := { s.c with inx:=wadd s.c.inx 1,st:=8,tm:=ba 20 } }
 else s
def Stp.dataIn (s:Stp) (m:Sg):Stp :=
 { c := { s.c with inx:=(reaS s.c.inx s.c.parts m.seq m.data).1,parts:=(reaS s.c.inx s.c.parts m.seq m.data).2.1 }, out:=s.out,told:=(reaS s.c.inx s.c.parts m.seq m.data).2.2 }
def Stp.data (s:Stp) (m:Sg):Stp:=bif s.c.hears then (s.dataIn m).dataFin m else s
def Cn.lateB (c:Cn):Bool := !c.tm.on && (decide (0 < c.sent) && (!(c.st == 0) && !(c.st == 8)))
def Stp.late (s:Stp):Stp:=bif s.c.lateB then { s with c := { s.c with tm:=ba 3 } } else s
def Stp.ackLen (s:Stp) (m:Sg):Stp:=bif decide (0 < m.len) then s.acks else s
def Stp.pumpT (s:Stp):Stp:=bif s.c.talks then s.pump else s
def Stp.more (s:Stp) (m:Sg):Stp:=((s.data m).ackLen m).pumpT.late
def Stp.take (s:Stp) (m:Sg):Stp :=
 bif s.c.st == 0 then s
 else bif s.c.accepts m then
  bif flN m.fl 4 then
   bif flN m.fl 2 then
    bif flN m.fl 16 then s
    else bif (s.ack m).2 then (s.ack m).1.more m else (s.ack m).1
   else s.acks
  else s.shut
 else bif flN m.fl 4 then (bif s.c.st == 8 then { s.acks with c := { s.c with tm:=ba 20 } } else s.acks)
 else s
def Cn.start (c:Cn):Stp:=⟨c,[],[]⟩
def Cn.takes (c:Cn) (m:Sg):Stp:=c.start.take m
def Cn.sendE (c:Cn) (b:List Int):Int:=bif c.talks && !c.closing then (bif decide (8192 - (c.out.length:Int) < (b.length:Int)) then 5 else 0) else 6
def Cn.sends (c:Cn) (b:List Int):Stp:=({ c with out:=c.out ++ b } : Cn).start.pump
def Cn.closeE (c:Cn):Int:=bif c.closing then 6 else bif c.talks || c.st == 1 then 0 else 6
def Cn.closes (c:Cn):Stp:=bif c.talks then ({ c with closing:=true } : Cn).start.pump else ({ c with closing:=true } : Cn).start
def Stp.abort (s:Stp):Stp:=bif s.c.st == 0 then s.shut else (s.seg s.c.nx 20 []).shut
def Cn.aborts (c:Cn):Stp:=c.start.abort
def aX (t:Tm):Tm := { t with left:=if t.on then max (t.left - 1) 0 else t.left }
def cQ (t:Tm):Bool:=t.on && (aX t).left == 0
def df (t:Tm):Tm:=⟨t.on,min (max (2 * t.wait) 1) 48,min (max (2 * t.wait) 1) 48,t.tries + 1⟩
def Stp.again (s:Stp):Stp :=
 bif s.c.st == 1 then s.seg s.c.una 18 []
 else bif decide (0 < s.c.sent) && decide (0 < (s.c.out.length:Int)) then s.seg s.c.una 24 (s.c.out.take (min (min s.c.sent s.c.len) 536).toNat)
 else bif decide (0 < s.c.sent) then s.seg s.c.una 17 []
 else bif decide (0 < (s.c.out.length:Int)) then
  { c := { s.c with nx:=wadd s.c.nx 1 }, out:=s.out ++ [⟨s.c.port,s.c.pp,s.c.nx,s.c.inx,24,2048,s.c.out.take 1⟩],told:=s.told }
 else { s with c := { s.c with tm:=tm0 } }
def Cn.ticks (c:Cn):Stp :=
 bif cQ c.tm then
  bif c.st == 8 then ({ c with tm:=aX c.tm } : Cn).start.shut
  else bif c.tm.tries == 8 then ({ c with tm:=aX c.tm } : Cn).aborts
  else ({ c with tm:=df (aX c.tm) } : Cn).start.again
 else ({ c with tm:=aX c.tm } : Cn).start
def fD (link ip iss:Int) (s:Sg):Bool:=am link 1099511627776 && (am ip 4294967295 && (am iss 4294967295 && (sgB s && (!(flN s.fl 2) && flN s.fl 20))))
def ce (link ip iss:Int) (s:Sg):Stp :=
 (⟨link,ip,s.sp,s.dp,1,iss,wadd iss 1,s.win,[],wadd s.seq 1,[],false,ba 3⟩:Cn).start.seg iss 18 []
abbrev tmC (t:Tm):List AV:=[.val (.bool t.on),.val (.int .i64 t.left),.val (.int .i64 t.wait),.val (.int .i64 t.tries)]
abbrev tmA (t:Tm):AV := .agg (tmC t)
theorem rD (n m:Int):ACallL Tryz.prog 122 [.val (.int .i64 n),.val (.int .i64 m)] [.perm] (.val (.bool (decide (0≤n∧n≤m)))) [.perm]:=by
 refine ACallL.of_ev af Tryz.func122 rfl (fun a w=>Tryz.call122 a w) (congrArg Array.toList Tryz.results122) Tryz.ntmps122 fun B hB=>?_;((conv=>whnf);(repeat' ((first|(with_reducible refine ai (by assumption) ?_)|(with_reducible refine aj (by assumption) ?_)|((with_reducible refine ai ?_ ?_);focus decide)|((with_reducible refine aj ?_ ?_);focus decide)|with_reducible refine ab (fun _=>?_) (fun _=>?_))<;>(conv=>whnf))));all_goals (refine qcv hB [] [(0,0)] [] ?_;repeat' (with_reducible first|exact trivial|refine And.intro ?_ ?_));all_goals ((try congr 1);first|done|omega|(simp_all;done)|(simp_all;omega))
theorem aF (n:Int):ACallL Tryz.prog 132 [.val (.int .i64 n)] [.perm] (tmA (ba n)) [.perm]:=by
 refine ACallL.of_ev af Tryz.func132 rfl (fun a w=>Tryz.call132 a w) (congrArg Array.toList Tryz.results132) Tryz.ntmps132 fun B hB=>?_;((conv=>whnf);(repeat' ((first|(with_reducible refine ai (by assumption) ?_)|(with_reducible refine aj (by assumption) ?_)|((with_reducible refine ai ?_ ?_);focus decide)|((with_reducible refine aj ?_ ?_);focus decide)|with_reducible refine ab (fun _=>?_) (fun _=>?_))<;>(conv=>whnf))));all_goals (refine qcv hB [] [(0,0)] [] ?_;repeat' (with_reducible first|exact trivial|refine And.intro ?_ ?_));all_goals ((try congr 1);first|done|omega|(simp_all;done)|(simp_all;omega))
theorem ej (n:Int):ACallL Tryz.prog 108 [.val (.int .i64 n)] [.perm] (tmA (ba n)) [.perm]:=by
 refine ACallL.of_ev af Tryz.func108 rfl (fun a w=>Tryz.call108 a w) (congrArg Array.toList Tryz.results108) Tryz.ntmps108 fun B hB=>?_;((conv=>whnf);(repeat' ((first|(with_reducible refine ai (by assumption) ?_)|(with_reducible refine aj (by assumption) ?_)|((with_reducible refine ai ?_ ?_);focus decide)|((with_reducible refine aj ?_ ?_);focus decide)|with_reducible refine ab (fun _=>?_) (fun _=>?_))<;>(conv=>whnf))));all_goals (refine qcv hB [] [(0,0)] [] ?_;repeat' (with_reducible first|exact trivial|refine And.intro ?_ ?_));all_goals ((try congr 1);first|done|omega|(simp_all;done)|(simp_all;omega))
theorem sK (t:Tm):ACallL Tryz.prog 86 [tmA t] [.perm] (.val (.bool (tmB t))) [.perm]:=by
 obtain ⟨on,l,wt,tr⟩:=t
 refine ACallL.of_ev af Tryz.func86 rfl (fun a w=>Tryz.call86 a w) (congrArg Array.toList Tryz.results86) Tryz.ntmps86 fun B hB=>?_
 ((conv=>whnf);(repeat' ((first|refine gT ?_|(with_reducible refine ab (fun _=>?_) (fun _=>?_))|((with_reducible refine qcp (rD _ _) ?_);refine pT ?_))<;>(conv=>whnf))))
 all_goals (refine qcv hB [] [(0,0)] [] ?_;repeat' (with_reducible first|exact trivial|refine And.intro ?_ ?_))
 all_goals (congr 1;simp_all [tmB]<;>omega)
theorem oW (t:Tm):ACallL Tryz.prog 48 [tmA t] [.perm] (.val (.bool (tmB t))) [.perm]:=by
 obtain ⟨on,l,wt,tr⟩:=t
 refine ACallL.of_ev af Tryz.func48 rfl (fun a w=>Tryz.call48 a w) (congrArg Array.toList Tryz.results48) Tryz.ntmps48 fun B hB=>?_
 ((conv=>whnf);(repeat' ((first|refine gT ?_|(with_reducible refine ab (fun _=>?_) (fun _=>?_))|((with_reducible refine qcp (mT _ _) ?_);refine pT ?_))<;>(conv=>whnf))))
 all_goals (refine qcv hB [] [(0,0)] [] ?_;repeat' (with_reducible first|exact trivial|refine And.intro ?_ ?_))
 all_goals (congr 1;simp_all [tmB]<;>omega)
theorem ln {t:Tm} (h:tmB t=true):(0≤t.left∧t.left≤48)∧(0≤t.wait∧t.wait≤48)∧(0≤t.tries∧t.tries≤8)∧(t.on=true∨t.left=0):=by
 simp only [tmB,Bool.and_eq_true,decide_eq_true_eq,Bool.or_eq_true,beq_iff_eq] at h
 exact ⟨by omega,by omega,by omega,h.2⟩
theorem vD (t:Tm) (hl:0≤t.left∧t.left≤48):ACallL Tryz.prog 101 [tmA t] [.perm] (.tup [tmA (aX t),.val (.bool (cQ t))]) [.perm]:=by
 obtain ⟨on,l,wt,tr⟩:=t
 dsimp only at hl
 have w:=IntWalk.i64_in (l - 1) (by omega)
 cases on<;>refine ACallL.of_ev af Tryz.func101 rfl (fun a w=>Tryz.call101 a w) (congrArg Array.toList Tryz.results101) Tryz.ntmps101 fun B hB=>?_
 all_goals ((conv=>whnf);(repeat' ((first|refine gT ?_|(with_reducible refine ab (fun _=>?_) (fun _=>?_))|(refine qAW.jump af 2 ?_))<;>(conv=>whnf))))
 (all_goals (refine qcv hB [] [(0,0)] [] ?_;repeat' (with_reducible first|exact trivial|refine And.intro ?_ ?_));all_goals (try (congr 1));all_goals (first|done|omega|(simp_all [cQ,aX];done)|(simp_all [cQ,aX];omega)))
theorem kT (t:Tm) (hl:0≤t.left∧t.left≤48):ACallL Tryz.prog 99 [tmA t] [.perm] (.tup [tmA (aX t),.val (.bool (cQ t))]) [.perm]:=by
 obtain ⟨on,l,wt,tr⟩:=t
 dsimp only at hl
 have w:=IntWalk.i64_in (l - 1) (by omega)
 have w2:=Int.max_comm 0 (l - 1)
 cases on<;>refine ACallL.of_ev af Tryz.func99 rfl (fun a w=>Tryz.call99 a w) (congrArg Array.toList Tryz.results99) Tryz.ntmps99 fun B hB=>?_
 all_goals ((conv=>whnf);(repeat' ((first|refine gT ?_|(with_reducible refine ab (fun _=>?_) (fun _=>?_))|(refine qAW.jump af 2 ?_))<;>(conv=>whnf))))
 (all_goals (refine qcv hB [] [(0,0)] [] ?_;repeat' (with_reducible first|exact trivial|refine And.intro ?_ ?_));all_goals (try (congr 1));all_goals (first|done|omega|(simp_all [cQ,aX];done)|(simp_all [cQ,aX];omega)))
theorem wv (t:Tm) (hm:tmB t=true) (ho:t.on=true):ACallL Tryz.prog 103 [tmA t] [.perm] (.tup [tmA (if t.tries=8 then tm0 else df t),.val (.int .i64 (if t.tries=8 then 6 else 0))]) [.perm]:=by
 have hb:=ln hm
 have hc:=sK t
 rw [hm] at hc
 obtain ⟨on,l,wt,tr⟩:=t
 dsimp only at hb ho ⊢
 subst ho
 have w:=IntWalk.i64_in (2 * wt) (by omega)
 have w2:=IntWalk.i64_in (tr + 1) (by omega)
 by_cases h8:tr=8
 ·rw [if_pos h8,if_pos h8]
  refine ACallL.of_ev af Tryz.func103 rfl (fun a w=>Tryz.call103 a w) (congrArg Array.toList Tryz.results103) Tryz.ntmps103 fun B hB=>?_
  ((conv=>whnf);(repeat' ((first|refine gT ?_|((with_reducible refine ai ?_ ?_);focus (simp [h8];done))|((with_reducible refine aj ?_ ?_);focus (simp [h8];done))|(with_reducible refine ab (fun _=>?_) (fun _=>?_))|((with_reducible refine qcp (hc) ?_);refine pT ?_))<;>(conv=>whnf))))
  (all_goals (refine qcv hB [] [(0,0)] [] ?_;repeat' (with_reducible first|exact trivial|refine And.intro ?_ ?_));all_goals (try (congr 1));all_goals (first|done|omega|(simp_all [tm0];done)|(simp_all [tm0];omega)))
 ·rw [if_neg h8,if_neg h8]
  refine ACallL.of_ev af Tryz.func103 rfl (fun a w=>Tryz.call103 a w) (congrArg Array.toList Tryz.results103) Tryz.ntmps103 fun B hB=>?_
  ((conv=>whnf);(repeat' ((first|refine gT ?_|((with_reducible refine ai ?_ ?_);focus (simp [h8];done))|((with_reducible refine aj ?_ ?_);focus (simp [h8];done))|(with_reducible refine ab (fun _=>?_) (fun _=>?_))|((with_reducible refine qcp (hc) ?_);refine pT ?_))<;>(conv=>whnf))))
  (all_goals (refine qcv hB [] [(0,0)] [] ?_;repeat' (with_reducible first|exact trivial|refine And.intro ?_ ?_));all_goals (try (congr 1));all_goals (first|done|omega|(simp_all [df];done)|(simp_all [df];omega)))
theorem ls (t:Tm) (hm:tmB t=true):ACallL Tryz.prog 100 [tmA t] [.perm] (.tup [tmA (if t.tries=8 then t else df t),.val (.int .i64 (if t.tries=8 then 6 else 0))]) [.perm]:=by
 have hb:=ln hm
 obtain ⟨on,l,wt,tr⟩:=t
 dsimp only at hb ⊢
 have w:=IntWalk.i64_in (2 * wt) (by omega)
 have w2:=IntWalk.i64_in (tr + 1) (by omega)
 have w3:min 48 (max 1 (2 * wt))=min (max (2 * wt) 1) 48:=by omega
 by_cases h8:tr=8
 ·rw [if_pos h8,if_pos h8]
  refine ACallL.of_ev af Tryz.func100 rfl (fun a w=>Tryz.call100 a w) (congrArg Array.toList Tryz.results100) Tryz.ntmps100 fun B hB=>?_
  ((conv=>whnf);(repeat' ((first|refine gT ?_|((with_reducible refine ai ?_ ?_);focus (simp [h8];done))|((with_reducible refine aj ?_ ?_);focus (simp [h8];done))|(with_reducible refine ab (fun _=>?_) (fun _=>?_)))<;>(conv=>whnf))))
  (all_goals (refine qcv hB [] [(0,0)] [] ?_;repeat' (with_reducible first|exact trivial|refine And.intro ?_ ?_));all_goals (try (congr 1));all_goals (first|done|omega|(simp_all [];done)|(simp_all [];omega)))
 ·rw [if_neg h8,if_neg h8]
  refine ACallL.of_ev af Tryz.func100 rfl (fun a w=>Tryz.call100 a w) (congrArg Array.toList Tryz.results100) Tryz.ntmps100 fun B hB=>?_
  ((conv=>whnf);(repeat' ((first|refine gT ?_|((with_reducible refine ai ?_ ?_);focus (simp [h8];done))|((with_reducible refine aj ?_ ?_);focus (simp [h8];done))|(with_reducible refine ab (fun _=>?_) (fun _=>?_)))<;>(conv=>whnf))))
  (all_goals (refine qcv hB [] [(0,0)] [] ?_;repeat' (with_reducible first|exact trivial|refine And.intro ?_ ?_));all_goals (try (congr 1));all_goals (first|done|omega|(simp_all [df];done)|(simp_all [df];omega)))
abbrev cnL (o p:AV) (c:Cn):List AV:=[.val (.int .i64 c.link),.val (.int .i64 c.ip),.val (.int .i64 c.pp),.val (.int .i64 c.port),.val (.int .i64 c.st),.val (.int .i64 c.una),.val (.int .i64 c.nx),.val (.int .i64 c.win),o,.val (.int .i64 c.inx),p,.val (.bool c.closing),.val (.bool c.tm.on),.val (.int .i64 c.tm.left),.val (.int .i64 c.tm.wait),.val (.int .i64 c.tm.tries)]
abbrev cnR (r:Nat) (c:Cn):List AV:=cnL (bL r c.out) (.list r 2 (c.parts.map (prt r))) c
abbrev cnG (o p d:Nat) (c:Cn):List AV:=cnL (gL o c.out) (.list p 2 (c.parts.map (prg d))) c
abbrev sgL (d:AV) (m:Sg):List AV:=[.val (.int .i64 m.sp),.val (.int .i64 m.dp),.val (.int .i64 m.seq),.val (.int .i64 m.ack),.val (.int .i64 m.fl),.val (.int .i64 m.win),d]
abbrev sgR (r:Nat) (m:Sg):List AV:=sgL (bL r m.data) m
abbrev sgG (r:Nat) (m:Sg):List AV:=sgL (gL r m.data) m
def aA (c:Cn):Prop:=c.out.length≤100000000∧dq c.parts
theorem gn (s n:Int):ACallL Tryz.prog 64 [.val (.int .i64 s),.val (.int .i64 n)] [.perm] (.val (.int .i64 (ah s n))) [.perm] :=
 ACallL.of_vals (us:=[.int .i64 s,.int .i64 n]) (fun a w=>Tryz.call64 a w) (fun w=>rV s n w) (fun _ _ _ => .val _)
theorem iO (m:Sg) (hm:m.data.length≤100000000):ACallL Tryz.prog 36 [.agg (sgR 0 m)] [.perm] (.agg (sgG 1 m)) [.perm,.uniq]:=by
 obtain ⟨sp,dp,seq,ack,fl,win,data⟩:=m
 dsimp only [sgR,sgG,sgL] at hm ⊢
 refine ACallL.of_ev af Tryz.func36 rfl (fun a w=>Tryz.call36 a w) (congrArg Array.toList Tryz.results36) Tryz.ntmps36 fun B hB=>?_
 ((conv=>whnf);(repeat' ((first|refine gT ?_|(with_reducible refine ab (fun _=>?_) (fun _=>?_)))<;>(conv=>whnf))))
 ((with_reducible refine qcf (fun r=>gL r data) (bK data hm) [(0,0)] [] ?_);refine sT ?_)
 ((conv=>whnf);(repeat' ((first|refine gT ?_|(with_reducible refine ab (fun _=>?_) (fun _=>?_)))<;>(conv=>whnf))))
 (refine qcv hB [] [(0,0),(4,1)] [] ?_;repeat' (with_reducible first|exact trivial|refine And.intro ?_ ?_))
 all_goals first|rfl|exact aM rfl rfl
theorem ii (c:Cn) (hc:aA c):ACallL Tryz.prog 45 [.agg (cnR 0 c)] [.perm] (.agg (cnG 1 2 3 c)) [.perm,.uniq,.uniq,.uniq]:=by
 obtain ⟨ho,hp⟩:=hc
 obtain ⟨link,ip,pp,port,st,una,nx,win,out,inx,parts,closing,⟨on,left,wait,tries⟩⟩:=c
 dsimp only [cnR,cnG,cnL] at ho hp ⊢
 refine ACallL.of_ev af Tryz.func45 rfl (fun a w=>Tryz.call45 a w) (congrArg Array.toList Tryz.results45) Tryz.ntmps45 fun B hB=>?_
 ((conv=>whnf);(repeat' ((first|refine gT ?_|(with_reducible refine ab (fun _=>?_) (fun _=>?_)))<;>(conv=>whnf))))
 ((with_reducible refine qcf (fun r=>gL r out) (bK out ho) [(0,0)] [] ?_);refine sT ?_)
 ((conv=>whnf);(repeat' ((first|refine gT ?_|(with_reducible refine ab (fun _=>?_) (fun _=>?_)))<;>(conv=>whnf))))
 ((with_reducible refine qco (oc inx parts hp) [] [(0,0)] [] [(1,5),(2,6)] [(5,.uniq),(6,.uniq)] (.agg [.val (.int .i64 inx),.glist 5 2 (parts.map (prg 6))]) ?_);refine sT ?_)
 ((conv=>whnf);(repeat' ((first|refine gT ?_|(with_reducible refine ab (fun _=>?_) (fun _=>?_)))<;>(conv=>whnf))))
 (refine qcv hB [] [(0,0),(4,1),(5,2),(6,3)] [] ?_;repeat' (with_reducible first|exact trivial|refine And.intro ?_ ?_))
 all_goals first|rfl|exact aM rfl rfl|exact aH _|exact aI rfl parts
theorem lC (a b:Sg) (ha:a.data.length≤100000000):ACallL Tryz.prog 38 [.agg (sgR 0 a),.agg (sgR 0 b)] [.perm] (.val (.bool (decide (a=b)))) [.perm]:=by
 obtain ⟨sp,dp,seq,ack,fl,win,data⟩:=a
 obtain ⟨sp', dp', seq', ack', fl', win', data'⟩:=b
 dsimp only [sgR,sgG,sgL] at ha ⊢
 have hE:=gm data data' ha
 obtain ⟨e,he⟩ : ∃ e,(data == data')=e:=⟨_,rfl⟩
 rw [he] at hE
 have px:=al data
 have py:=al data'
 refine ACallL.of_ev af Tryz.func38 rfl (fun a w=>Tryz.call38 a w) (congrArg Array.toList Tryz.results38) Tryz.ntmps38 fun B hB=>?_
 ((conv=>whnf);(repeat' ((first|refine gT ?_|(with_reducible refine ab (fun _=>?_) (fun _=>?_))|((with_reducible refine qcp (hE) ?_);refine pT ?_))<;>(conv=>whnf))))
 all_goals (refine qcv hB [] [(0,0)] [] ?_;repeat' (with_reducible first|exact trivial|refine And.intro ?_ ?_))
 all_goals (congr 1;cases e<;>simp_all)
def eqCn (a b:Cn):Bool:=a.link == b.link && (a.ip == b.ip && (a.pp == b.pp && (a.port == b.port && (a.st == b.st && (a.una == b.una && (a.nx == b.nx && (a.win == b.win && (a.out == b.out && ((a.inx == b.inx && a.parts == b.parts) && (a.closing == b.closing && eqTm a.tm b.tm))))))))))
theorem tv (a b:Tm):eqTm a b=decide (a=b):=by
 obtain ⟨on,left,wait,tries⟩:=a
 obtain ⟨on', left', wait', tries'⟩:=b
 rw [Bool.eq_iff_iff]
 simp only [eqTm,Bool.and_eq_true,beq_iff_eq,decide_eq_true_eq,Tm.mk.injEq,and_true]
theorem tp (a b:Cn):eqCn a b=decide (a=b):=by
 unfold eqCn
 rw [tv]
 obtain ⟨link,ip,pp,port,st,una,nx,win,out,inx,parts,closing,tm⟩:=a
 obtain ⟨link', ip', pp', port', st', una', nx', win', out', inx', parts', closing', tm'⟩:=b
 rw [Bool.eq_iff_iff]
 simp only [Bool.and_eq_true,beq_iff_eq,decide_eq_true_eq,Cn.mk.injEq,and_assoc]
theorem t7 (a b:Cn) (ha:aA a):ACallL Tryz.prog 118 [.agg (cnR 0 a),.agg (cnR 0 b)] [.perm] (.val (.bool (decide (a=b)))) [.perm]:=by
 obtain ⟨ho,hp⟩:=ha
 rw [← tp]
 unfold eqCn eqTm
 obtain ⟨link,ip,pp,port,st,una,nx,win,out,inx,parts,closing,⟨on,left,wait,tries⟩⟩:=a
 obtain ⟨link', ip', pp', port', st', una', nx', win', out', inx', parts', closing', ⟨on', left', wait', tries'⟩⟩:=b
 dsimp only [cnR,cnG,cnL] at ho hp ⊢
 have hE:=gm out out' ho
 obtain ⟨e,he⟩ : ∃ e,(out == out')=e:=⟨_,rfl⟩
 rw [he] at hE
 have hB:=qf inx inx' parts parts' hp
 obtain ⟨f,hf⟩ : ∃ f,(inx == inx' && parts == parts')=f:=⟨_,rfl⟩
 rw [hf] at hB
 have hB2:=hB
 clear hB
 have px:=al out
 have py:=al out'
 have qx:=ar parts
 have qy:=ar parts'
 refine ACallL.of_ev af Tryz.func118 rfl (fun a w=>Tryz.call118 a w) (congrArg Array.toList Tryz.results118) Tryz.ntmps118 fun B hB=>?_
 ((conv=>whnf);(repeat' ((first|refine gT ?_|(with_reducible refine ab (fun _=>?_) (fun _=>?_))|((with_reducible refine qcp (hE) ?_);refine pT ?_)|((with_reducible refine qcp (hB2) ?_);refine pT ?_)|(refine qOpen.eqb mK rfl rfl rfl ?_)|(refine qOpen.eq nz rfl rfl rfl rfl ?_))<;>(conv=>whnf))))
 all_goals (refine qcv hB [] [(0,0)] [] ?_;repeat' (with_reducible first|exact trivial|refine And.intro ?_ ?_))
 all_goals simp only [*, Bool.true_and,Bool.false_and]
def SgAt (w:World) (g o:Nat) (e:TypeId):Prop :=
 ∃ cur,w.heap[g]?=some (.cells cur e (0,0))∧(∀ j,j < 6 → ∃ x,cur[o + j]?=some (.int .i64 x)) ∧ ∃ p n c,cur[o + 6]?=some (.slice p n c)
theorem SgAt.setI {D P:Nat→Prop} {a w:World} (hdp : ∀ g,D g → ¬ P g) {g o j:Nat} {e:TypeId} (hp:P g) (hj:j < 6) (y:Int) (h:Sp D P a w∧SgAt w g o e):Sp D P a (w.setCell ⟨g,o + j,none⟩ (.int .i64 y))∧SgAt (w.setCell ⟨g,o + j,none⟩ (.int .i64 y)) g o e:=by
 obtain ⟨hS,cur,h1,h2,p,n,c,h3⟩:=h
 obtain ⟨x,hx⟩:=h2 j hj
 refine ⟨hS.setPart hdp hp (o + j) _ h1 hx (.inr (.inl ⟨_,_,_,rfl,rfl⟩)),_,dL h1 _,fun i hi=>?_,p,n,c,by rw [Array.getElem?_setIfInBounds_ne (by omega)];exact h3⟩
 by_cases hij:i=j
 ·subst hij
  have hlt:o + i < cur.size:=(Array.getElem?_eq_some_iff.1 hx).1
  exact ⟨y,by simp [Array.getElem?_setIfInBounds,hlt]⟩
 ·obtain ⟨z,hz⟩:=h2 i hi
  exact ⟨z,by rw [Array.getElem?_setIfInBounds_ne (by omega)];exact hz⟩
def SgSp (D P:Nat→Prop) (w:World) (v:Value):Prop :=
 v = .slice none 0 0∨(∃ a cap,v = .slice (some a) 0 cap) ∨ ∃ g off n cap cur e,v = .slice (some ⟨g,off,none⟩) n cap∧P g∧n≤100000000∧w.heap[g]?=some (.cells cur e (0,0)) ∧ ∀ k,k < n→(∀ j,j < 6 → ∃ x,cur[off + k * 7 + j]?=some (.int .i64 x)) ∧ ∃ u,cur[off + k * 7 + 6]?=some u∧BySp D w u
theorem SgSp.row {D P:Nat→Prop} {w wr:World} {g o:Nat} {cur:Array Value} {e:TypeId} {u:Value} (hp:P g) (h1:w.heap[g]?=some (.cells cur e (0,0))) (h2 : ∀ j,j < 6 → ∃ x,cur[o + j]?=some (.int .i64 x)) (h3:cur[o + 6]?=some u) (h4:BySp D w u) (S:Sp D P w wr) :
 ∃ cur' u', wr.heap[g]?=some (.cells cur' e (0,0))∧(∀ j,j < 6 → ∃ y,cur'[o + j]?=some (.int .i64 y))∧cur'[o + 6]?=some u' ∧ BySp D wr u' ∧ ∃ p n c,u' = .slice p n c:=by
 obtain ⟨c,a1,a2,a3⟩:=S.prt g hp cur e h1
 obtain ⟨v2,c1,c2⟩:=a3 _ _ h3
 have hsl : ∃ p n c,u = .slice p n c:=by
  rcases h4 with h|⟨a,h⟩|⟨g', o', n', cap', cu,e', h,_⟩
  ·exact ⟨_,_,_,h⟩
  ·exact ⟨_,_,_,h⟩
  ·exact ⟨_,_,_,h⟩
 have hj : ∀ j,j < 6 → ∃ y,c[o + j]?=some (.int .i64 y):=fun j hj=>by
  obtain ⟨x,hx⟩:=h2 j hj
  obtain ⟨v1,b1,b2⟩:=a3 _ _ hx
  rcases b2 with rfl|⟨k', x', y', e1,e2⟩|⟨p,n,q,e1,e2⟩
  ·exact ⟨x,b1⟩
  ·cases e1;exact ⟨y', by rw [b1,e2]⟩
  ·cases e1
 rcases c2 with rfl|⟨k', x', y', e1,e2⟩|⟨p,n,q,e1,e2⟩
 ·exact ⟨c,v2,a1,hj,c1,h4.mono S,hsl⟩
 ·obtain ⟨p,n,q,hu⟩:=hsl
  rw [e1] at hu;cases hu
 ·exact ⟨c,v2,a1,hj,c1,.inl e2,by rw [e2];exact ⟨_,_,_,rfl⟩⟩
theorem SgSp.ofR {m:Nm} {h:Hp} {w:World} (rel:Rel m h w) {r r' : Nat} (hr:h r = .uniq) (hr' : h r' = .uniq) {l:List Sg} (h0:l.length≤100000000) (hl : ∀ s∈l,s.data.length≤100000000) {v:Value} (hR:R m h w (.list r 7 (l.map (sgG r'))) v):SgSp (m.set r') (m.set r) w v:=by
 have lp:(l.map (sgG r')).length=l.length:=by simp
 generalize hrows:l.map (sgG r')=rows at hR lp
 cases hR with
 | nil=>exact .inl rfl
 | emp _ _ cap a hi hm=>exact .inr (.inl ⟨a,cap,rfl⟩)
 | listD _ _ _ _ hd _=>rw [hr] at hd;cases hd
 | list _ _ _ hi g off cap hg hc hm hw f hf hRR =>
   obtain ⟨cur,e,hcur⟩:=rel.free r g hr hg
   refine .inr (.inr ⟨g,off,rows.length,cap,cur,e,rfl,hg,by rw [lp];exact h0,hcur,fun k hk=>?_⟩)
   rw [lp] at hk
   have hrow:rows[k]?=some (sgG r' l[k]):=by rw [← hrows];simp [hk]
   have key : ∀ (j:Nat) (x:Int),(sgG r' l[k])[j]?=some (.val (.int .i64 x))→cur[off + k * 7 + j]?=some (.int .i64 x):=fun j x hj=>by
    have h1:=hf k j _ _ hrow hj
    have h2:=hRR k j _ _ hrow hj
    rw [h2.val_inv] at h1
    simpa [World.cell?,hcur] using h1
   refine ⟨fun j hj=>?_,f k 6,?_,BySp.ofR rel hr' (hl _ (List.getElem_mem hk)) (hRR k 6 _ (gL r' l[k].data) hrow rfl)⟩
   ·match j,hj with
    | 0,_=>exact ⟨_,key 0 _ rfl⟩
    | 1,_=>exact ⟨_,key 1 _ rfl⟩
    | 2,_=>exact ⟨_,key 2 _ rfl⟩
    | 3,_=>exact ⟨_,key 3 _ rfl⟩
    | 4,_=>exact ⟨_,key 4 _ rfl⟩
    | 5,_=>exact ⟨_,key 5 _ rfl⟩
    | j + 6,h=>omega
   ·have h3:=hf k 6 _ (gL r' l[k].data) hrow rfl
    simpa [World.cell?,hcur] using h3
abbrev dot:AV := .ptr 1 0 0
inductive Blind:AV→AV→Prop
 | dot (c:AV) (h:c.one=true):Blind c dot
 | val (v:Value):Blind (.val v) (.val v)
 | agg (cs cs' : List AV) (hl:cs.length=cs'.length) (H : ∀ (i:Nat) (c c' : AV),cs[i]?=some c→cs'[i]?=some c' → Blind c c'):Blind (.agg cs) (.agg cs')
def BlindL (cs cs' : List AV):Prop:=cs.length=cs'.length ∧ ∀ (i:Nat) (c c' : AV),cs[i]?=some c→cs'[i]?=some c' → Blind c c'
theorem BlindL.nil:BlindL [] []:=⟨rfl,by simp⟩
theorem BlindL.cons {c c' : AV} {cs cs' : List AV} (h:Blind c c') (H:BlindL cs cs'):BlindL (c::cs) (c' :: cs'):=by
 refine ⟨by simp [H.1],fun i x y hx hy=>?_⟩
 cases i with
 | zero=>simp at hx hy;subst hx hy;exact h
 | succ i=>exact H.2 i x y (by simpa using hx) (by simpa using hy)
theorem Blind.r {m m' : Nm} {h:Hp} {w:World} {c c' : AV} {v:Value} (hb:Blind c c') (hR:R m h w c v):R m' (ofL [.perm,.dead]) w c' v:=by
 induction hb generalizing v with
 | dot c h1=>exact .ptrD 1 0 0 v rfl (hR.one h1)
 | val u =>
   have:=hR.val_inv
   subst this
   exact .val _
 | agg cs cs' hl H ih =>
   cases hR with
   | agg _ vs hl2 hc =>
     refine .agg _ _ (hl ▸ hl2) fun i c v h1 h2=>?_
     obtain ⟨d,hd⟩ : ∃ d,cs[i]?=some d:=⟨_,List.getElem?_eq_getElem (by rw [hl];exact (List.getElem?_eq_some_iff.1 h1).1)⟩
     exact ih i d c hd h1 (hc i d v hd h2)
theorem tf (x:Nat):ofL [.perm,.dead] x = .perm∨ofL [.perm,.dead] x = .dead∨ofL [.perm,.dead] x = .unused:=by
 rcases x with _|_|x<;>simp [ofL,List.getD]
theorem qCall.blind {P:Program} {f:FuncId} {args args' : List AV} {u:Value} (H:ACallL P f args' [.perm,.dead] (.val u) [.perm,.dead]) (hb:BlindL args args') {h:List Own} {K:AV→List Nat→List Nat→List Own→Prop} (hq:K (.val u) [] [] h):qCall P f args h K:=by
 unfold qCall
 refine ⟨[],[],.val u,⟨H.1,fun hh m w vs _ rel hl=>?_⟩,⟨fun q hq=>absurd hq List.not_mem_nil,trivial⟩,hq⟩
 let m' : Nm:=⟨fun _=>(0,0),fun _ _=>False⟩
 have nl : ∀ id k,ofL [.perm,.dead] id ≠ .live k:=fun id k e=>by rcases tf id with h|h|h<;>rw [h] at e<;>cases e
 have nu : ∀ id,ofL [.perm,.dead] id ≠ .uniq:=fun id e=>by rcases tf id with h|h|h<;>rw [h] at e<;>cases e
 have rel' : Rel m' (ofL [.perm,.dead]) w:=⟨fun id k e=>(nl id k e).elim,fun id id' k k' e=>(nl id k e).elim,fun id k r e=>(nl id k e).elim,fun r r' g e=>(nu r e).elim,fun r g _ e=>e.elim,fun r g e=>(nu r e).elim⟩
 refine (H.2 m' w vs rel' ⟨hb.1 ▸ hl.1,fun i c v h1 h2=>?_⟩).mono ?_
 ·obtain ⟨d,hd⟩ : ∃ d,args[i]?=some d:=⟨_,List.getElem?_eq_getElem (by rw [hb.1];exact (List.getElem?_eq_some_iff.1 h1).1)⟩
  exact (hb.2 i d c hd h1).r (hl.2 i d v hd h2)
 ·rintro e w' ⟨v,m2,rfl,rel2,ev,hv⟩
  have hv:=hv.val_inv
  subst hv
  have fr : ∀ g,g < w.heap.size→w'.heap[g]?=w.heap[g]?:=fun g hg=>ev.frame g hg (fun id k e=>(nl id k e).elim) (fun r e=>(nu r e).elim)
  have ev2:Ev m hh w m hh w' := by
   refine ⟨fun _ _=>rfl,fun _ _=>rfl,fun id=>Own.goes_refl _,ev.size,fun id k k' h1 h2 cur e f hc=>?_,fun g hg _ _=>fr g hg,fun id k h1 h2=>(by rw [h1] at h2;cases h2),fun r g h1 h2=>(by rw [h1] at h2;cases h2),ev.os,ev.tape,ev.output⟩
   obtain ⟨cur0,h3,_⟩:=rel.own id k h1
   have hlt:=(Array.getElem?_eq_some_iff.1 h3).1
   rw [fr _ hlt] at hc
   exact ⟨cur,e,f,hc,rfl⟩
  refine ⟨_,m,rfl,?_,ev2,.val _⟩
  refine ⟨fun id k e=>?_,rel.sep,rel.sepR,rel.sepU,fun r g h1 h2=>Nat.lt_of_lt_of_le (rel.bound r g h1 h2) ev.size,fun r g h1 h2=>?_⟩
  ·obtain ⟨cur,h3,h4,h5,h6⟩:=rel.own id k e
   refine ⟨cur,by rw [fr _ (Array.getElem?_eq_some_iff.1 h3).1];exact h3,h4,h5,fun i j row c h7 h8=>?_⟩
   obtain ⟨v,h9,h10⟩:=h6 i j row c h7 h8
   exact ⟨v,h9,R.mono rel ev2 h10⟩
  ·obtain ⟨cur,e,h3⟩:=rel.free r g h1 h2
   exact ⟨cur,e,by rw [fr _ (Array.getElem?_eq_some_iff.1 h3).1];exact h3⟩
theorem AW.seqC {P:Program} {B:Base} {x y:Code} {Q:AExit→ASt→Prop} {st:ASt} (h:AW P B x (fun e st=>match e with | .normal=>AW P B y Q st|e=>Q e st) st):AW P B (.seq x y) Q st:=by
 intro m w a hs hev
 refine wp_seq (wp_mono (h m w a hs hev) ?_)
 rintro e a' w' ⟨e', st', m', rfl,hq,hs', ev⟩
 cases e' with
 | normal=>exact hq m' w' a' hs' ev
 | exit id=>exact ⟨.exit id,st', m', rfl,hq,hs', ev⟩
 | goto l=>exact ⟨.goto l,st', m', rfl,hq,hs', ev⟩
 | ret=>exact ⟨.ret,st', m', rfl,hq,hs', ev⟩
theorem qAW.scopeL {P:Program} (hm:P.follows .mixedOrders=true) {B:Base} {X:Type} {pre R:Code} {l:Nat} {Q:AExit→List AV→List Own→Prop} {sl:List AV} {h:List Own} (hf:findLabel (.seq pre (.seq (.label l) R)) l=some (.seq .skip R)) (F:X→List AV) (G:X→List Own) (I:X→Prop) (μ:X→Nat)
 (first:ev P B pre (fun e sl h=>match e with | .normal => ∃ y,I y∧qConv B sl h (F y) (G y)|_=>False) sl h)
 (pass : ∀ (E:List AV→List Own→Prop), ∀ x,I x→E=ev P B (.seq .skip R) (fun e sl h=>match e with | .goto l' => (match Nat.beq l' l with|true => ∃ y,I y∧μ y < μ x∧qConv B sl h (F y) (G y)|false=>False)|e=>Q e sl h)→ch (F x) fun sl=>cw (G x) fun h=>E sl h):qAW P B (.scope (.seq pre (.seq (.label l) R))) Q sl h:=by
 have key : ∀ x,I x→AW P B (.seq .skip R) (fun e st=>match e with | .goto l' => (match Nat.beq l' l with|true => ∃ y,I y∧μ y < μ x∧qConv B st.sl st.h (F y) (G y)|false=>False)|e=>Q e st.sl st.h) ⟨F x,G x⟩:=fun x hx=>by
  have hp:=pass _ x hx rfl
  simp only [bH,bZ] at hp
  exact AW.mono (bC hm _ _ ⟨_,_⟩ (dh _ _ _ _ hp)) fun e st H=>H
 have key2 : ∀ x,I x→AW P B (.seq (.label l) R) (fun e st=>match e with | .goto l' => (match Nat.beq l' l with|true => ∃ y,I y∧μ y < μ x∧qConv B st.sl st.h (F y) (G y)|false=>False)|e=>Q e st.sl st.h) ⟨F x,G x⟩:=fun x hx=>by
  have hp:=pass _ x hx rfl
  simp only [bH,bZ] at hp
  exact AW.mono (bC hm (.seq (.label l) R) _ ⟨_,_⟩ (dh (.seq (.label l) R) _ _ _ hp)) fun e st H=>H
 unfold qAW
 refine j8 (P:=P) (X := { x:X // I x }) (fun _=>l) (fun x=>⟨F x.1,G x.1⟩) (fun x=>μ x.1) (fun _=>by rw [hf];rfl) (AW.seqC (AW.mono (bC hm _ _ ⟨_,_⟩ (dh _ _ _ _ first)) fun e st H=>?_)) fun x rest' hr=>?_
 ·cases e with
  | normal =>
    obtain ⟨y,h1,h2⟩:=H
    unfold qConv at h2
    refine AW.conv h2 (AW.mono (key2 y h1) fun e st H=>?_)
    cases e with
    | goto l' =>
      simp only at H
      cases hb:Nat.beq l' l with
      | false=>rw [hb] at H;exact H.elim
      | true =>
        rw [hb] at H
        have e1:l' = l:=by simpa using hb
        subst e1
        obtain ⟨z,h3,_,h4⟩:=H
        unfold qConv at h4
        exact .inl ⟨⟨z,h3⟩,rfl,trivial,h4⟩
    | normal=>exact H
    | ret=>exact H
    | exit id=>exact H
  | goto l' => exact H.elim
  | ret=>exact H.elim
  | exit id=>exact H.elim
 ·rw [hf] at hr
  cases hr
  refine AW.mono (key x.1 x.2) fun e st H=>?_
  cases e with
  | goto l' =>
    simp only at H
    cases hb:Nat.beq l' l with
    | false=>rw [hb] at H;exact H.elim
    | true =>
      rw [hb] at H
      have e1:l' = l:=by simpa using hb
      subst e1
      obtain ⟨y,h1,h2,h3⟩:=H
      unfold qConv at h3
      exact .inl ⟨⟨y,h1⟩,rfl,h2,h3⟩
  | normal=>exact H
  | ret=>exact H
  | exit id=>exact H
def spine:Code→List Code
 | .seq a b=>spine a ++ spine b
 | .skip=>[.skip]
 | .label l=>[.label l]
 | .region i o d=>[.region i o d]
 | .cond c x y=>[.cond c x y]
 | .block i c=>[.block i c]
 | .loop c=>[.loop c]
 | .exit i=>[.exit i]
 | .scope c=>[.scope c]
 | .goto l=>[.goto l]
 | .ret=>[.ret]
 | .rangeFunc f p a b=>[.rangeFunc f p a b]
 | .refuse w=>[.refuse w]
def aJ:List Code→Code
 | [] => .skip
 | c::l => .seq c (aJ l)
def qZ (N:ASt→Prop) (Q:AExit→ASt→Prop):AExit→ASt→Prop
 | .normal,st=>N st
 | e,st=>Q e st
def AWs (P:Program) (B:Base):List Code→(AExit→ASt→Prop)→ASt→Prop
 | [],Q,st=>Q .normal st
 | c::l,Q,st=>AW P B c (qZ (AWs P B l Q) Q) st
theorem AWs.mono {P:Program} {B:Base} : ∀ (l:List Code) {Q Q' : AExit→ASt→Prop} {st:ASt}, AWs P B l Q st→(∀ e st,Q e st→Q' e st)→AWs P B l Q' st
 | [],Q,Q', st,h,hq=>hq _ _ h
 | c::l,Q,Q', st,h,hq=>AW.mono h fun e st H=>by
  cases e with
  | normal=>exact AWs.mono l H hq
  | exit id=>exact hq _ _ H
  | goto l' => exact hq _ _ H
  | ret=>exact hq _ _ H
theorem AWs.app {P:Program} {B:Base} : ∀ (l1 l2:List Code) {Q:AExit→ASt→Prop} {st:ASt}, AWs P B l1 (qZ (AWs P B l2 Q) Q) st→AWs P B (l1 ++ l2) Q st
 | [],l2,Q,st,h=>h
 | c::l1,l2,Q,st,h=>AW.mono h fun e st H=>by
  cases e with
  | normal=>exact AWs.app l1 l2 H
  | exit id=>exact H
  | goto l' => exact H
  | ret=>exact H
theorem AWs.app' {P:Program} {B:Base} : ∀ (l1 l2:List Code) {Q:AExit→ASt→Prop} {st:ASt}, AWs P B (l1 ++ l2) Q st→AWs P B l1 (qZ (AWs P B l2 Q) Q) st
 | [],l2,Q,st,h=>h
 | c::l1,l2,Q,st,h=>AW.mono h fun e st H=>by
  cases e with
  | normal=>exact AWs.app' l1 l2 H
  | exit id=>exact H
  | goto l' => exact H
  | ret=>exact H
theorem AWs.one {P:Program} {B:Base} {c:Code} {Q:AExit→ASt→Prop} {st:ASt} (h:AWs P B [c] Q st):AW P B c Q st:=AW.mono h fun e st H=>by
 cases e<;>exact H
theorem AWs.spine {P:Program} {B:Base} : ∀ (c:Code) {Q:AExit→ASt→Prop} {st:ASt}, AWs P B (spine c) Q st→AW P B c Q st
 | .seq a b,Q,st,h=>AW.seqC (AW.mono (AWs.spine a (AWs.app' _ _ h)) fun e st H=>by
  cases e with
  | normal=>exact AWs.spine b H
  | exit id=>exact H
  | goto l' => exact H
  | ret=>exact H)
 | .skip,Q,st,h=>h.one
 | .label _,Q,st,h=>h.one
 | .region .., Q,st,h=>h.one
 | .cond .., Q,st,h=>h.one
 | .block .., Q,st,h=>h.one
 | .loop _,Q,st,h=>h.one
 | .exit _,Q,st,h=>h.one
 | .scope _,Q,st,h=>h.one
 | .goto _,Q,st,h=>h.one
 | .ret,Q,st,h=>h.one
 | .rangeFunc .., Q,st,h=>h.one
 | .refuse _,Q,st,h=>h.one
theorem AWs.of_ev {P:Program} (hm:P.follows .mixedOrders=true) {B:Base} : ∀ (l:List Code) {Q:AExit→List AV→List Own→Prop} {sl:List AV} {h:List Own}, ev P B (aJ l) Q sl h→AWs P B l (fun e st=>Q e st.sl st.h) ⟨sl,h⟩
 | [],Q,sl,h,H=>H
 | c::l,Q,sl,h,H=>by
   refine AW.mono (bC hm c _ ⟨sl,h⟩ (dh c _ _ _ H)) fun e st H=>?_
   cases e with
   | normal=>exact AWs.of_ev hm l H
   | exit id=>exact H
   | goto l' => exact H
   | ret=>exact H
theorem ACallL.of_AW {P:Program} {f:FuncId} {fn:Func} {c:Code} {args:List AV} {L0:List Own} {res:AV} {L1:List Own} {rs:List ResultVar} {n:Nat} (hf:P.funcs[f]?=some fn) (hb:fn.body=some c) (hc:cn P f)
 (hrs:fn.results.toList=rs) (hn:fn.ntmps=n) (h : ∀ B:Base,B.h=ofL L0→AW P B c (aRet P B rs res L1) ⟨args ++ List.replicate (n - args.length) (.val undef),L0⟩):ACallL P f args L0 res L1:=by
 subst hrs hn
 refine ⟨hc,fun m w vs rel hl=>?_⟩
 let B:Base:=⟨m,ofL L0,w,rel⟩
 have H:=h B rfl
 refine calls_of_wp hf hb (wp_mono (H m w _ ⟨rel,fun t=>?_,by simp [hl.1],rfl⟩ (Ev.refl _ _ _)) ?_)
 ·by_cases ht:t < args.length
  ·have e1:(args ++ List.replicate (fn.ntmps - args.length) (AV.val undef)).getD t (.val undef)=args[t]:=by simp [List.getD,List.getElem?_append_left,ht]
   have hts:t < vs.size:=by rw [← hl.1];exact ht
   have e2:(vs ++ Array.replicate (fn.ntmps - vs.size) undef).getD t undef=vs[t]:=by
    simp only [Array.getD_eq_getD_getElem?,Array.getElem?_append_left hts,Array.getElem?_eq_getElem hts,Option.getD_some]
   simp only
   rw [e1,e2]
   exact hl.2 t _ _ (List.getElem?_eq_getElem ht) (Array.getElem?_eq_getElem hts)
  ·have e1:(args ++ List.replicate (fn.ntmps - args.length) (AV.val undef)).getD t (.val undef) = .val undef:=by
    simp only [List.getD_eq_getElem?_getD,List.getElem?_append_right (Nat.le_of_not_lt ht),List.getElem?_replicate]
    split<;>rfl
   have e2:(vs ++ Array.replicate (fn.ntmps - vs.size) undef).getD t undef=undef:=by
    simp only [Array.getD_eq_getD_getElem?]
    rw [Array.getElem?_append_right (by rw [← hl.1];omega),Array.getElem?_replicate]
    split<;>rfl
   simp only
   rw [e1,e2]
   exact .val _
 ·rintro e a' w' ⟨e', st', m', rfl,hq,hs', ev⟩
  have fin:(∃ av,ares P fn.results.toList st'.sl st'.h=some av∧ConvS B ⟨[av],st'.h⟩ ⟨[res],L1⟩)→a'.defers=[] ∧ ∃ v,(results fn a'.tmps).run P w' = .ok v w' ∧ ∃ v' m', Ending.returned v = .returned v' ∧ Rel m' (ofL L1) w' ∧ Ev m (ofL L0) w m' (ofL L1) w' ∧ R m' (ofL L1) w' res v' := by
   rintro ⟨av,hav,hcv⟩
   obtain ⟨v,hv,hR⟩:=nF hs' hav
   obtain ⟨m2,hs2,ev2⟩:=hcv m' w' ⟨#[v],[]⟩ ⟨hs'.rel,fun t=>by
    cases t with
    | zero=>simpa using hR
    | succ t=>simp;exact .val _,rfl,rfl⟩ ev
   refine ⟨hs'.defers,v,hv,v,m2,rfl,hs2.rel,ev2,?_⟩
   simpa using hs2.slots 0
  cases e' with
  | normal=>exact fin hq
  | ret=>exact fin hq
  | exit id=>exact hq.elim
  | goto l=>exact hq.elim
theorem ACallL.of_body {P:Program} {f:FuncId} {fn:Func} {c:Code} {args:List AV} {L0:List Own} {res:AV} {L1:List Own} {rs:List ResultVar} {n:Nat} (hf:P.funcs[f]?=some fn) (hb:fn.body=some c) (hc:cn P f)
 (hrs:fn.results.toList=rs) (hn:fn.ntmps=n) (h : ∀ B:Base,B.h=ofL L0→AW P B c (fun e st=>jz P B rs res L1 e st.sl st.h) ⟨args ++ List.replicate (n - args.length) (.val undef),L0⟩):ACallL P f args L0 res L1:=by
 refine ACallL.of_AW hf hb hc hrs hn fun B hB=>AW.mono (h B hB) fun e st He=>?_
 have fin:(jG (ares P rs st.sl st.h) fun av=>frcW av fun av=>qConv B [av] st.h [res] L1) → ∃ av,ares P rs st.sl st.h=some av∧ConvS B ⟨[av],st.h⟩ ⟨[res],L1⟩:=by
  intro H
  cases hr:ares P rs st.sl st.h with
  | none=>rw [hr] at H;exact H.elim
  | some av =>
    rw [hr] at H
    simp only [jG,dI] at H
    unfold qConv at H
    exact ⟨av,rfl,H⟩
 cases e with
 | normal=>exact fin He
 | ret=>exact fin He
 | exit id=>exact He.elim
 | goto l=>exact He.elim
theorem ACallL.of_cut {P:Program} (hm:P.follows .mixedOrders=true) (k:Nat) {f:FuncId} {fn:Func} {c:Code} {args:List AV} {L0:List Own} {res:AV} {L1:List Own} {rs:List ResultVar} {n:Nat} (hf:P.funcs[f]?=some fn) (hb:fn.body=some c) (hc:cn P f)
 (hrs:fn.results.toList=rs) (hn:fn.ntmps=n) {c1 c2:Code} (h1:aJ ((spine c).take k)=c1) (h2:aJ ((spine c).drop k)=c2) (hk:((spine c).drop k).isEmpty=false) {X:Type} (F:X→List AV) (G:X→List Own) (I:X→Prop)
 (first : ∀ B:Base,B.h=ofL L0→ev P B c1 (fun e sl h=>match e with | .normal => ∃ x,I x∧qConv B sl h (F x) (G x)|e=>jz P B rs res L1 e sl h) (args ++ List.replicate (n - args.length) (.val undef)) L0)
 (second : ∀ B:Base,B.h=ofL L0 → ∀ x,I x→ch (F x) fun sl=>cw (G x) fun h=>ev P B c2 (jz P B rs res L1) sl h):ACallL P f args L0 res L1:=by
 subst h1 h2
 refine ACallL.of_body hf hb hc hrs hn fun B hB=>AWs.spine c ?_
 rw [← List.take_append_drop k (spine c)]
 refine AWs.app _ _ (AWs.mono _ (AWs.of_ev hm _ (first B hB)) fun e st H=>?_)
 cases e with
 | normal =>
   obtain ⟨x,hx,hcv⟩:=H
   have h2:=second B hB x hx
   simp only [bH,bZ] at h2
   have h3:=AWs.of_ev hm _ h2
   unfold qConv at hcv
   show AWs P B ((spine c).drop k) _ st
   cases hd:(spine c).drop k with
   | nil=>rw [hd] at hk;cases hk
   | cons a l =>
     rw [hd] at h3
     exact AW.conv hcv h3
 | exit id=>exact H
 | goto l' => exact H
 | ret=>exact H
def qQ (Q:AExit→List AV→List Own→Prop):AExit→ASt→Prop:=fun e st=>Q e st.sl st.h
def qAWs (P:Program) (B:Base) (L:List Code) (Q:AExit→List AV→List Own→Prop) (sl:List AV) (h:List Own):Prop:=AWs P B L (qQ Q) ⟨sl,h⟩
theorem ACallL.of_AWs {P:Program} {f:FuncId} {fn:Func} {c:Code} {args:List AV} {L0:List Own} {res:AV} {L1:List Own} {rs:List ResultVar} {n:Nat} (hf:P.funcs[f]?=some fn) (hb:fn.body=some c) (hc:cn P f)
 (hrs:fn.results.toList=rs) (hn:fn.ntmps=n) {L:List Code} (hL:spine c=L) (h : ∀ B:Base,B.h=ofL L0→qAWs P B L (jz P B rs res L1) (args ++ List.replicate (n - args.length) (.val undef)) L0):ACallL P f args L0 res L1 :=
 ACallL.of_body hf hb hc hrs hn fun B hB=>AWs.spine c (by rw [hL];exact h B hB)
theorem qAWs.cut {P:Program} (hm:P.follows .mixedOrders=true) (k:Nat) {B:Base} {L L1 L2:List Code} {c1:Code} {Q:AExit→List AV→List Own→Prop} {sl:List AV} {h:List Own} (e1:L.take k=L1) (e2:L.drop k=L2) (hc:aJ L1=c1) (hk:L2.isEmpty=false) {X:Type} (F:X→List AV) (G:X→List Own) (I:X→Prop)
 (first:ch sl fun sl=>cw h fun h=>ev P B c1 (fun e sl h=>match e with | .normal => ∃ x,I x∧qConv B sl h (F x) (G x)|e=>Q e sl h) sl h)
 (second : ∀ x,I x→qAWs P B L2 Q (F x) (G x)):qAWs P B L Q sl h:=by
 subst e1 e2 hc
 unfold qAWs
 rw [← List.take_append_drop k L]
 simp only [bH,bZ] at first
 refine AWs.app _ _ (AWs.mono _ (AWs.of_ev hm _ first) fun e st H=>?_)
 cases e with
 | normal =>
   obtain ⟨x,hx,hcv⟩:=H
   have h3:=second x hx
   unfold qAWs at h3
   unfold qConv at hcv
   show AWs P B (L.drop k) _ st
   cases hd:L.drop k with
   | nil=>rw [hd] at hk;cases hk
   | cons a l =>
     rw [hd] at h3
     exact AW.conv hcv h3
 | exit id=>exact H
 | goto l' => exact H
 | ret=>exact H
theorem qAWs.fin {P:Program} (hm:P.follows .mixedOrders=true) {B:Base} {L:List Code} {c:Code} {Q:AExit→List AV→List Own→Prop} {sl:List AV} {h:List Own} (hc:aJ L=c) (H:ch sl fun sl=>cw h fun h=>ev P B c Q sl h):qAWs P B L Q sl h:=by
 subst hc
 simp only [bH,bZ] at H
 exact AWs.of_ev hm _ H
theorem ACallL.of_q {P:Program} {f:FuncId} {args:List AV} {L0 L1:List Own} {res:AV} (hf:cn P f) (H : ∀ B:Base,B.h=ofL L0→qCall P f args L0 fun av _ _ h' => qConv B [av] h' [res] L1):ACallL P f args L0 res L1:=by
 refine ⟨hf,fun m w vs rel hl=>?_⟩
 have H' := H ⟨m,ofL L0,w,rel⟩ rfl
 unfold qCall at H'
 obtain ⟨rd,T,res', hA,hF,hK⟩:=H'
 refine (hA.2 (ofL L0) m w vs (fun p hp=>hF.1 p hp) rel hl).mono ?_
 rintro e w' ⟨v,m', rfl,rel', ev', hv⟩
 rw [← lS hF.2] at rel' ev' hv
 unfold qConv at hK
 obtain ⟨m2,h1,h2⟩:=hK m' w' ⟨#[v],[]⟩ ⟨rel', fun t=>by
  cases t with
  | zero=>simpa using hv
  | succ t=>simp;exact .val _,rfl,rfl⟩ ev'
 exact ⟨v,m2,rfl,h1.rel,h2,by simpa using h1.slots 0⟩
theorem iY (n m:Int):ACallL Tryz.prog 111 [.val (.int .i64 n),.val (.int .i64 m)] [.perm] (.val (.bool (am n m))) [.perm]:=by
 unfold am
 refine ACallL.of_ev af Tryz.func111 rfl (fun a w=>Tryz.call111 a w) (congrArg Array.toList Tryz.results111) Tryz.ntmps111 fun B hB=>?_;((conv=>whnf);(repeat' ((first|(with_reducible refine ai (by assumption) ?_)|(with_reducible refine aj (by assumption) ?_)|((with_reducible refine ai ?_ ?_);focus decide)|((with_reducible refine aj ?_ ?_);focus decide)|with_reducible refine ab (fun _=>?_) (fun _=>?_))<;>(conv=>whnf))));all_goals (refine qcv hB [] [(0,0)] [] ?_;repeat' (with_reducible first|exact trivial|refine And.intro ?_ ?_));all_goals ((try congr 1);first|done|omega|(simp_all;done)|(simp_all;omega))
theorem gH (n:Int):ACallL Tryz.prog 69 [.val (.int .i64 n)] [.perm] (.val (.bool (am n 4294967295))) [.perm]:=by
 refine ACallL.of_ev af Tryz.func69 rfl (fun a w=>Tryz.call69 a w) (congrArg Array.toList Tryz.results69) Tryz.ntmps69 fun B hB=>?_
 ((conv=>whnf);(repeat' ((first|refine gT ?_|(with_reducible refine ab (fun _=>?_) (fun _=>?_))|((with_reducible refine qcp (iY _ _) ?_);refine pT ?_))<;>(conv=>whnf))))
 all_goals (refine qcv hB [] [(0,0)] [] ?_;repeat' (with_reducible first|exact trivial|refine And.intro ?_ ?_))
theorem lV (n:Int):ACallL Tryz.prog 83 [.val (.int .i64 n)] [.perm] (.val (.bool (am n 65535))) [.perm]:=by
 refine ACallL.of_ev af Tryz.func83 rfl (fun a w=>Tryz.call83 a w) (congrArg Array.toList Tryz.results83) Tryz.ntmps83 fun B hB=>?_
 ((conv=>whnf);(repeat' ((first|refine gT ?_|(with_reducible refine ab (fun _=>?_) (fun _=>?_))|((with_reducible refine qcp (iY _ _) ?_);refine pT ?_))<;>(conv=>whnf))))
 all_goals (refine qcv hB [] [(0,0)] [] ?_;repeat' (with_reducible first|exact trivial|refine And.intro ?_ ?_))
theorem fV (m:Sg):ACallL Tryz.prog 70 [.agg (sgR 0 m)] [.perm] (.val (.bool (sgB m))) [.perm]:=by
 obtain ⟨sp,dp,seq,ack,fl,win,data⟩:=m
 have ld:(data.map bR).length=data.length:=by simp
 have pd:=al data
 unfold sgB
 have e1:decide (data.length≤1460)=decide ((data.length:Int)≤1460):=by rw [decide_eq_decide];omega
 dsimp only [sgR,sgL]
 rw [e1, ← ld]
 refine ACallL.of_ev af Tryz.func70 rfl (fun a w=>Tryz.call70 a w) (congrArg Array.toList Tryz.results70) Tryz.ntmps70 fun B hB=>?_
 ((conv=>whnf);(repeat' ((first|refine gT ?_|(with_reducible refine ab (fun _=>?_) (fun _=>?_))|((with_reducible refine qcp (iY _ _) ?_);refine pT ?_)|((with_reducible refine qcp (lV _) ?_);refine pT ?_))<;>(conv=>whnf))))
 all_goals (refine qcv hB [] [(0,0)] [] ?_;repeat' (with_reducible first|exact trivial|refine And.intro ?_ ?_))
 all_goals simp only [*, Bool.true_and,Bool.false_and]
theorem jW (m:Sg):ACallL Tryz.prog 34 [.agg (sgR 0 m)] [.perm] (.val (.bool (sgB m))) [.perm]:=by
 obtain ⟨sp,dp,seq,ack,fl,win,data⟩:=m
 have ld:(data.map bR).length=data.length:=by simp
 have pd:=al data
 unfold sgB
 have e1:decide (data.length≤1460)=decide ((data.length:Int)≤1460):=by rw [decide_eq_decide];omega
 dsimp only [sgR,sgL]
 rw [e1, ← ld]
 have nl:=mT
 simp only [← am.eq_1] at nl
 refine ACallL.of_ev af Tryz.func34 rfl (fun a w=>Tryz.call34 a w) (congrArg Array.toList Tryz.results34) Tryz.ntmps34 fun B hB=>?_
 ((conv=>whnf);(repeat' ((first|refine gT ?_|(with_reducible refine ab (fun _=>?_) (fun _=>?_))|((with_reducible refine qcp (nl _ _) ?_);refine pT ?_)|((with_reducible refine qcp (dx _) ?_);refine pT ?_))<;>(conv=>whnf))))
 all_goals (refine qcv hB [] [(0,0)] [] ?_;repeat' (with_reducible first|exact trivial|refine And.intro ?_ ?_))
 all_goals simp only [*, Bool.true_and,Bool.false_and]
theorem uY (una nx:Int):ACallL Tryz.prog 123 [.agg [dot,dot,dot,dot,dot,.val (.int .i64 una),.val (.int .i64 nx),dot,dot,dot,dot,dot,dot,dot,dot,dot]] [.perm,.dead] (.val (.int .i64 (ah nx una))) [.perm,.dead]:=by
 refine ACallL.of_ev af Tryz.func123 rfl (fun a w=>Tryz.call123 a w) (congrArg Array.toList Tryz.results123) Tryz.ntmps123 fun B hB=>?_
 ((conv=>whnf);(repeat' ((first|refine gT ?_|(with_reducible refine ab (fun _=>?_) (fun _=>?_))|((with_reducible refine qcp (dg _ _) ?_);refine pT ?_))<;>(conv=>whnf))))
 (refine qcv hB [] [(0,0)] [] ?_;repeat' (with_reducible first|exact trivial|refine And.intro ?_ ?_))
theorem o6 (una nx:Int):ACallL Tryz.prog 49 [.agg [dot,dot,dot,dot,dot,.val (.int .i64 una),.val (.int .i64 nx),dot,dot,dot,dot,dot,dot,dot,dot,dot]] [.perm,.dead] (.val (.int .i64 (ah nx una))) [.perm,.dead]:=by
 refine ACallL.of_ev af Tryz.func49 rfl (fun a w=>Tryz.call49 a w) (congrArg Array.toList Tryz.results49) Tryz.ntmps49 fun B hB=>?_
 ((conv=>whnf);(repeat' ((first|refine gT ?_|(with_reducible refine ab (fun _=>?_) (fun _=>?_))|((with_reducible refine qcp (gn _ _) ?_);refine pT ?_))<;>(conv=>whnf))))
 (refine qcv hB [] [(0,0)] [] ?_;repeat' (with_reducible first|exact trivial|refine And.intro ?_ ?_))
theorem pL {a0 a1 a2 a3 a4 a7 a8 a9 a10 a11 a12 a13 a14 a15:AV} (una nx:Int) (h1:[a0,a1,a2,a3,a4,a7,a8,a9,a10,a11,a12,a13,a14,a15].all AV.one=true) :
 BlindL [.agg [a0,a1,a2,a3,a4,.val (.int .i64 una),.val (.int .i64 nx),a7,a8,a9,a10,a11,a12,a13,a14,a15]] [.agg [dot,dot,dot,dot,dot,.val (.int .i64 una),.val (.int .i64 nx),dot,dot,dot,dot,dot,dot,dot,dot,dot]]:=by
 simp only [List.all_cons,List.all_nil,Bool.and_eq_true] at h1
 obtain ⟨b0,b1,b2,b3,b4,b7,b8,b9,b10,b11,b12,b13,b14,b15, -⟩:=h1
 have:BlindL [a0,a1,a2,a3,a4,.val (.int .i64 una),.val (.int .i64 nx),a7,a8,a9,a10,a11,a12,a13,a14,a15] [dot,dot,dot,dot,dot,.val (.int .i64 una),.val (.int .i64 nx),dot,dot,dot,dot,dot,dot,dot,dot,dot] :=
  .cons (.dot _ b0) (.cons (.dot _ b1) (.cons (.dot _ b2) (.cons (.dot _ b3) (.cons (.dot _ b4) (.cons (.val _) (.cons (.val _) (.cons (.dot _ b7) (.cons (.dot _ b8) (.cons (.dot _ b9) (.cons (.dot _ b10) (.cons (.dot _ b11) (.cons (.dot _ b12) (.cons (.dot _ b13) (.cons (.dot _ b14) (.cons (.dot _ b15) .nil)))))))))))))))
 exact .cons (.agg _ _ this.1 this.2) .nil
theorem qCall.sent {una nx:Int} {a0 a1 a2 a3 a4 a7 a8 a9 a10 a11 a12 a13 a14 a15:AV} {h:List Own} {K:AV→List Nat→List Nat→List Own→Prop} (h1:[a0,a1,a2,a3,a4,a7,a8,a9,a10,a11,a12,a13,a14,a15].all AV.one=true) (hq:K (.val (.int .i64 (ah nx una))) [] [] h):qCall Tryz.prog 123 [.agg [a0,a1,a2,a3,a4,.val (.int .i64 una),.val (.int .i64 nx),a7,a8,a9,a10,a11,a12,a13,a14,a15]] h K :=
 qCall.blind (uY una nx) (pL una nx h1) hq
theorem qCall.rsent {una nx:Int} {a0 a1 a2 a3 a4 a7 a8 a9 a10 a11 a12 a13 a14 a15:AV} {h:List Own} {K:AV→List Nat→List Nat→List Own→Prop} (h1:[a0,a1,a2,a3,a4,a7,a8,a9,a10,a11,a12,a13,a14,a15].all AV.one=true) (hq:K (.val (.int .i64 (ah nx una))) [] [] h):qCall Tryz.prog 49 [.agg [a0,a1,a2,a3,a4,.val (.int .i64 una),.val (.int .i64 nx),a7,a8,a9,a10,a11,a12,a13,a14,a15]] h K :=
 qCall.blind (o6 una nx) (pL una nx h1) hq
abbrev iR (n:Int):List AV:=[.val (.int .i64 n)]
def ix5 (x:Int):Int:=if x=3 then 0 else if x=4 then 1 else if x=6 then 2 else if x=7 then 3 else if x=8 then 4 else -1
theorem tT (x:Int):ACallL Tryz.prog 158 [.list 0 1 ([3,4,6,7,8].map iR),.val (.int .i64 x)] [.perm] (.val (.int .i64 (ix5 x))) [.perm]:=by
 have w1:IntKind.i64.wrap 1=1:=by decide
 have w2:IntKind.i64.wrap (1 + 1)=2:=by decide
 have w3:IntKind.i64.wrap (2 + 1)=3:=by decide
 have w4:IntKind.i64.wrap (3 + 1)=4:=by decide
 refine ACallL.of_ev af Tryz.func158 rfl (fun a w=>Tryz.call158 a w) (congrArg Array.toList Tryz.results158) Tryz.ntmps158 fun B hB=>?_
 ((conv=>whnf);(repeat' ((first|refine gT ?_|(with_reducible refine ab (fun _=>?_) (fun _=>?_))|(refine qAW.unroll af 6 ?_))<;>(conv=>whnf))))
 all_goals (refine qcv hB [] [(0,0)] [] ?_;repeat' (with_reducible first|exact trivial|refine And.intro ?_ ?_))
 all_goals (congr 1;simp_all [ix5])
theorem oT (x:Int):ACallL Tryz.prog 151 [.list 0 1 ([3,4,6,7,8].map iR),.val (.int .i64 x)] [.perm] (.val (.bool (eO x))) [.perm]:=by
 refine ACallL.of_ev af Tryz.func151 rfl (fun a w=>Tryz.call151 a w) (congrArg Array.toList Tryz.results151) Tryz.ntmps151 fun B hB=>?_
 ((conv=>whnf);(repeat' ((first|refine gT ?_|(with_reducible refine ab (fun _=>?_) (fun _=>?_)))<;>(conv=>whnf))))
 ((with_reducible refine qcr (tT x) [(0,0)] [] ?_);refine sT ?_)
 ((conv=>whnf);(repeat' ((first|refine gT ?_|(with_reducible refine ab (fun _=>?_) (fun _=>?_)))<;>(conv=>whnf))))
 (refine qcv hB [] [(0,0)] [] ?_;repeat' (with_reducible first|exact trivial|refine And.intro ?_ ?_))
 congr 1
 unfold ix5 eO
 rw [Bool.eq_iff_iff]
 simp only [decide_eq_true_eq]
 split<;>(try split)<;>(try split)<;>(try split)<;>(try split)<;>omega
theorem tA (x:Int):ACallL Tryz.prog 145 [.val (.int .i64 x)] [.perm] (.val (.bool (eO x))) [.perm]:=by
 refine ACallL.of_ev af Tryz.func145 rfl (fun a w=>Tryz.call145 a w) (congrArg Array.toList Tryz.results145) Tryz.ntmps145 fun B hB=>?_
 ((conv=>whnf);(repeat' ((first|refine gT ?_|(with_reducible refine ab (fun _=>?_) (fun _=>?_)))<;>(conv=>whnf))))
 ((with_reducible refine qcr (oT x) [] [(0,1)] ?_);refine sT ?_)
 ((conv=>whnf);(repeat' ((first|refine gT ?_|(with_reducible refine ab (fun _=>?_) (fun _=>?_)))<;>(conv=>whnf))))
 (refine qcv hB [] [(0,0)] [] ?_;repeat' (with_reducible first|exact trivial|refine And.intro ?_ ?_))
theorem oF (x:Int):ACallL Tryz.prog 133 [.val (.int .i64 x)] [.perm] (.val (.bool (eO x))) [.perm]:=by
 refine ACallL.of_ev af Tryz.func133 rfl (fun a w=>Tryz.call133 a w) (congrArg Array.toList Tryz.results133) Tryz.ntmps133 fun B hB=>?_
 ((conv=>whnf);(repeat' ((first|refine gT ?_|(with_reducible refine ab (fun _=>?_) (fun _=>?_)))<;>(conv=>whnf))))
 all_goals (refine qcv hB [] [(0,0)] [] ?_;repeat' (with_reducible first|exact trivial|refine And.intro ?_ ?_))
 all_goals (congr 1;unfold eO;first|(simp_all;done)|(rw [Bool.eq_iff_iff];simp_all))
end Go.Proofs.YtceohcbokbalhaaGreat
/- Contracts and plain laws, one behind the other: SpoilS, AhiDot, AhTcpA, AhTcpP, AhTcpB, AhTcpC, TcpL. Conditions are said at each. -/
import Derived.Test.YtceohcbokbalhaaPkAD
import Derived.Test.YtceohcbokbalhaaAhiC
/- Segments and connections that are let go of. No condition but lengths. -/
namespace Go.Proofs.Ytceohcbokbalhaa
open Go.RowKit
open BigFrame
set_option linter.unusedVariables false
set_option linter.unusedSimpArgs false
set_option maxRecDepth 100000
def SgAt (w : World) (g o : Nat) (e : TypeId) : Prop :=
  ∃ cur, w.heap[g]? = some (.cells cur e (0, 0)) ∧ (∀ j, j < 6 → ∃ x, cur[o + j]? = some (.int .i64 x)) ∧ ∃ p n c, cur[o + 6]? = some (.slice p n c)
theorem SgAt.setI {D P : Nat → Prop} {a w : World} (hdp : ∀ g, D g → ¬ P g) {g o j : Nat} {e : TypeId} (hp : P g) (hj : j < 6) (y : Int) (h : Sp D P a w ∧ SgAt w g o e) : Sp D P a (w.setCell ⟨g, o + j, none⟩ (.int .i64 y)) ∧ SgAt (w.setCell ⟨g, o + j, none⟩ (.int .i64 y)) g o e := by
  obtain ⟨hS, cur, h1, h2, p, n, c, h3⟩ := h
  obtain ⟨x, hx⟩ := h2 j hj
  refine ⟨hS.setPart hdp hp (o + j) _ h1 hx (.inr (.inl ⟨_, _, _, rfl, rfl⟩)), _, heap_setCell_at h1 _, fun i hi => ?_, p, n, c, by rw [Array.getElem?_setIfInBounds_ne (by omega)]; exact h3⟩
  by_cases hij : i = j
  · subst hij
    have hlt : o + i < cur.size := (Array.getElem?_eq_some_iff.1 hx).1
    exact ⟨y, by simp [Array.getElem?_setIfInBounds, hlt]⟩
  · obtain ⟨z, hz⟩ := h2 i hi
    exact ⟨z, by rw [Array.getElem?_setIfInBounds_ne (by omega)]; exact hz⟩
def SgSp (D P : Nat → Prop) (w : World) (v : Value) : Prop :=
  v = .slice none 0 0 ∨ (∃ a cap, v = .slice (some a) 0 cap) ∨ ∃ g off n cap cur e, v = .slice (some ⟨g, off, none⟩) n cap ∧ P g ∧ n ≤ 100000000 ∧ w.heap[g]? = some (.cells cur e (0, 0)) ∧ ∀ k, k < n → (∀ j, j < 6 → ∃ x, cur[off + k * 7 + j]? = some (.int .i64 x)) ∧ ∃ u, cur[off + k * 7 + 6]? = some u ∧ BySp D w u
theorem SgSp.row {D P : Nat → Prop} {w wr : World} {g o : Nat} {cur : Array Value} {e : TypeId} {u : Value} (hp : P g) (h1 : w.heap[g]? = some (.cells cur e (0, 0))) (h2 : ∀ j, j < 6 → ∃ x, cur[o + j]? = some (.int .i64 x)) (h3 : cur[o + 6]? = some u) (h4 : BySp D w u) (S : Sp D P w wr) :
    ∃ cur' u', wr.heap[g]? = some (.cells cur' e (0, 0)) ∧ (∀ j, j < 6 → ∃ y, cur'[o + j]? = some (.int .i64 y)) ∧ cur'[o + 6]? = some u' ∧ BySp D wr u' ∧ ∃ p n c, u' = .slice p n c := by
  obtain ⟨c, a1, a2, a3⟩ := S.prt g hp cur e h1
  obtain ⟨v2, c1, c2⟩ := a3 _ _ h3
  have hsl : ∃ p n c, u = .slice p n c := by
    rcases h4 with h | ⟨a, h⟩ | ⟨g', o', n', cap', cu, e', h, _⟩
    · exact ⟨_, _, _, h⟩
    · exact ⟨_, _, _, h⟩
    · exact ⟨_, _, _, h⟩
  have hj : ∀ j, j < 6 → ∃ y, c[o + j]? = some (.int .i64 y) := fun j hj => by
    obtain ⟨x, hx⟩ := h2 j hj
    obtain ⟨v1, b1, b2⟩ := a3 _ _ hx
    rcases b2 with rfl | ⟨k', x', y', e1, e2⟩ | ⟨p, n, q, e1, e2⟩
    · exact ⟨x, b1⟩
    · cases e1; exact ⟨y', by rw [b1, e2]⟩
    · cases e1
  rcases c2 with rfl | ⟨k', x', y', e1, e2⟩ | ⟨p, n, q, e1, e2⟩
  · exact ⟨c, v2, a1, hj, c1, h4.mono S, hsl⟩
  · obtain ⟨p, n, q, hu⟩ := hsl
    rw [e1] at hu; cases hu
  · exact ⟨c, v2, a1, hj, c1, .inl e2, by rw [e2]; exact ⟨_, _, _, rfl⟩⟩
end Go.Proofs.Ytceohcbokbalhaa

/- Arguments of which a callee looks at some cells alone: the others stand for anything. No condition. -/
namespace Go.Proofs.Ytceohcbokbalhaa
open Go.RowKit
set_option linter.unusedVariables false
set_option linter.unusedSimpArgs false
abbrev dot : AV := .ptr 1 0 0
inductive Blind : AV → AV → Prop
  | dot (c : AV) (h : c.one = true) : Blind c dot
  | val (v : Value) : Blind (.val v) (.val v)
  | agg (cs cs' : List AV) (hl : cs.length = cs'.length) (H : ∀ (i : Nat) (c c' : AV), cs[i]? = some c → cs'[i]? = some c' → Blind c c') : Blind (.agg cs) (.agg cs')
def BlindL (cs cs' : List AV) : Prop := cs.length = cs'.length ∧ ∀ (i : Nat) (c c' : AV), cs[i]? = some c → cs'[i]? = some c' → Blind c c'
theorem BlindL.nil : BlindL [] [] := ⟨rfl, by simp⟩
theorem BlindL.cons {c c' : AV} {cs cs' : List AV} (h : Blind c c') (H : BlindL cs cs') : BlindL (c :: cs) (c' :: cs') := by
  refine ⟨by simp [H.1], fun i x y hx hy => ?_⟩
  cases i with
  | zero => simp at hx hy; subst hx hy; exact h
  | succ i => exact H.2 i x y (by simpa using hx) (by simpa using hy)
theorem Blind.r {m m' : Nm} {h : Hp} {w : World} {c c' : AV} {v : Value} (hb : Blind c c') (hR : R m h w c v) : R m' (ofL [.perm, .dead]) w c' v := by
  induction hb generalizing v with
  | dot c h1 => exact .ptrD 1 0 0 v rfl (hR.one h1)
  | val u =>
    have := hR.val_inv
    subst this
    exact .val _
  | agg cs cs' hl H ih =>
    cases hR with
    | agg _ vs hl2 hc =>
      refine .agg _ _ (hl ▸ hl2) fun i c v h1 h2 => ?_
      obtain ⟨d, hd⟩ : ∃ d, cs[i]? = some d := ⟨_, List.getElem?_eq_getElem (by rw [hl]; exact (List.getElem?_eq_some_iff.1 h1).1)⟩
      exact ih i d c hd h1 (hc i d v hd h2)
theorem ofL_pd (x : Nat) : ofL [.perm, .dead] x = .perm ∨ ofL [.perm, .dead] x = .dead ∨ ofL [.perm, .dead] x = .unused := by
  rcases x with _ | _ | x <;> simp [ofL, List.getD]
theorem qCall.blind {P : Program} {f : FuncId} {args args' : List AV} {u : Value} (H : ACallL P f args' [.perm, .dead] (.val u) [.perm, .dead]) (hb : BlindL args args') {h : List Own} {K : AV → List Nat → List Nat → List Own → Prop} (hq : K (.val u) [] [] h) : qCall P f args h K := by
  unfold qCall
  refine ⟨[], [], .val u, ⟨H.1, fun hh m w vs _ rel hl => ?_⟩, ⟨fun q hq => absurd hq List.not_mem_nil, trivial⟩, hq⟩
  let m' : Nm := ⟨fun _ => (0, 0), fun _ _ => False⟩
  have nl : ∀ id k, ofL [.perm, .dead] id ≠ .live k := fun id k e => by rcases ofL_pd id with h | h | h <;> rw [h] at e <;> cases e
  have nu : ∀ id, ofL [.perm, .dead] id ≠ .uniq := fun id e => by rcases ofL_pd id with h | h | h <;> rw [h] at e <;> cases e
  have rel' : Rel m' (ofL [.perm, .dead]) w := ⟨fun id k e => (nl id k e).elim, fun id id' k k' e => (nl id k e).elim, fun id k r e => (nl id k e).elim, fun r r' g e => (nu r e).elim, fun r g _ e => e.elim, fun r g e => (nu r e).elim⟩
  refine (H.2 m' w vs rel' ⟨hb.1 ▸ hl.1, fun i c v h1 h2 => ?_⟩).mono ?_
  · obtain ⟨d, hd⟩ : ∃ d, args[i]? = some d := ⟨_, List.getElem?_eq_getElem (by rw [hb.1]; exact (List.getElem?_eq_some_iff.1 h1).1)⟩
    exact (hb.2 i d c hd h1).r (hl.2 i d v hd h2)
  · rintro e w' ⟨v, m2, rfl, rel2, ev, hv⟩
    have hv := hv.val_inv
    subst hv
    have fr : ∀ g, g < w.heap.size → w'.heap[g]? = w.heap[g]? := fun g hg => ev.frame g hg (fun id k e => (nl id k e).elim) (fun r e => (nu r e).elim)
    have ev2 : Ev m hh w m hh w' := by
      refine ⟨fun _ _ => rfl, fun _ _ => rfl, fun id => Own.goes_refl _, ev.size, fun id k k' h1 h2 cur e f hc => ?_, fun g hg _ _ => fr g hg, fun id k h1 h2 => (by rw [h1] at h2; cases h2), fun r g h1 h2 => (by rw [h1] at h2; cases h2), ev.os, ev.tape, ev.output⟩
      obtain ⟨cur0, h3, _⟩ := rel.own id k h1
      have hlt := (Array.getElem?_eq_some_iff.1 h3).1
      rw [fr _ hlt] at hc
      exact ⟨cur, e, f, hc, rfl⟩
    refine ⟨_, m, rfl, ?_, ev2, .val _⟩
    refine ⟨fun id k e => ?_, rel.sep, rel.sepR, rel.sepU, fun r g h1 h2 => Nat.lt_of_lt_of_le (rel.bound r g h1 h2) ev.size, fun r g h1 h2 => ?_⟩
    · obtain ⟨cur, h3, h4, h5, h6⟩ := rel.own id k e
      refine ⟨cur, by rw [fr _ (Array.getElem?_eq_some_iff.1 h3).1]; exact h3, h4, h5, fun i j row c h7 h8 => ?_⟩
      obtain ⟨v, h9, h10⟩ := h6 i j row c h7 h8
      exact ⟨v, h9, R.mono rel ev2 h10⟩
    · obtain ⟨cur, e, h3⟩ := rel.free r g h1 h2
      exact ⟨cur, e, by rw [fr _ (Array.getElem?_eq_some_iff.1 h3).1]; exact h3⟩
theorem AW.seqC {P : Program} {B : Base} {x y : Code} {Q : AExit → ASt → Prop} {st : ASt} (h : AW P B x (fun e st => match e with | .normal => AW P B y Q st | e => Q e st) st) : AW P B (.seq x y) Q st := by
  intro m w a hs hev
  refine wp_seq (wp_mono (h m w a hs hev) ?_)
  rintro e a' w' ⟨e', st', m', rfl, hq, hs', ev⟩
  cases e' with
  | normal => exact hq m' w' a' hs' ev
  | exit id => exact ⟨.exit id, st', m', rfl, hq, hs', ev⟩
  | goto l => exact ⟨.goto l, st', m', rfl, hq, hs', ev⟩
  | ret => exact ⟨.ret, st', m', rfl, hq, hs', ev⟩
theorem qAW.scopeL {P : Program} (hm : P.follows .mixedOrders = true) {B : Base} {X : Type} {pre R : Code} {l : Nat} {Q : AExit → List AV → List Own → Prop} {sl : List AV} {h : List Own} (hf : findLabel (.seq pre (.seq (.label l) R)) l = some (.seq .skip R)) (F : X → List AV) (G : X → List Own) (I : X → Prop) (μ : X → Nat)
    (first : ev P B pre (fun e sl h => match e with | .normal => ∃ y, I y ∧ qConv B sl h (F y) (G y) | _ => False) sl h)
    (pass : ∀ (E : List AV → List Own → Prop), ∀ x, I x → E = ev P B (.seq .skip R) (fun e sl h => match e with | .goto l' => (match Nat.beq l' l with | true => ∃ y, I y ∧ μ y < μ x ∧ qConv B sl h (F y) (G y) | false => False) | e => Q e sl h) → frcVV (F x) fun sl => frcOs (G x) fun h => E sl h) : qAW P B (.scope (.seq pre (.seq (.label l) R))) Q sl h := by
  have key : ∀ x, I x → AW P B (.seq .skip R) (fun e st => match e with | .goto l' => (match Nat.beq l' l with | true => ∃ y, I y ∧ μ y < μ x ∧ qConv B st.sl st.h (F y) (G y) | false => False) | e => Q e st.sl st.h) ⟨F x, G x⟩ := fun x hx => by
    have hp := pass _ x hx rfl
    simp only [frcVV_eq, frcOs_eq] at hp
    exact AW.mono (awp_sound hm _ _ ⟨_, _⟩ (ev_awp _ _ _ _ hp)) fun e st H => H
  have key2 : ∀ x, I x → AW P B (.seq (.label l) R) (fun e st => match e with | .goto l' => (match Nat.beq l' l with | true => ∃ y, I y ∧ μ y < μ x ∧ qConv B st.sl st.h (F y) (G y) | false => False) | e => Q e st.sl st.h) ⟨F x, G x⟩ := fun x hx => by
    have hp := pass _ x hx rfl
    simp only [frcVV_eq, frcOs_eq] at hp
    exact AW.mono (awp_sound hm (.seq (.label l) R) _ ⟨_, _⟩ (ev_awp (.seq (.label l) R) _ _ _ hp)) fun e st H => H
  unfold qAW
  refine AW_scope (P := P) (X := { x : X // I x }) (fun _ => l) (fun x => ⟨F x.1, G x.1⟩) (fun x => μ x.1) (fun _ => by rw [hf]; rfl) (AW.seqC (AW.mono (awp_sound hm _ _ ⟨_, _⟩ (ev_awp _ _ _ _ first)) fun e st H => ?_)) fun x rest' hr => ?_
  · cases e with
    | normal =>
      obtain ⟨y, h1, h2⟩ := H
      unfold qConv at h2
      refine AW.conv h2 (AW.mono (key2 y h1) fun e st H => ?_)
      cases e with
      | goto l' =>
        simp only at H
        cases hb : Nat.beq l' l with
        | false => rw [hb] at H; exact H.elim
        | true =>
          rw [hb] at H
          have e1 : l' = l := by simpa using hb
          subst e1
          obtain ⟨z, h3, _, h4⟩ := H
          unfold qConv at h4
          exact .inl ⟨⟨z, h3⟩, rfl, trivial, h4⟩
      | normal => exact H
      | ret => exact H
      | exit id => exact H
    | goto l' => exact H.elim
    | ret => exact H.elim
    | exit id => exact H.elim
  · rw [hf] at hr
    cases hr
    refine AW.mono (key x.1 x.2) fun e st H => ?_
    cases e with
    | goto l' =>
      simp only at H
      cases hb : Nat.beq l' l with
      | false => rw [hb] at H; exact H.elim
      | true =>
        rw [hb] at H
        have e1 : l' = l := by simpa using hb
        subst e1
        obtain ⟨y, h1, h2, h3⟩ := H
        unfold qConv at h3
        exact .inl ⟨⟨y, h1⟩, rfl, h2, h3⟩
    | normal => exact H
    | ret => exact H
    | exit id => exact H
def spine : Code → List Code
  | .seq a b => spine a ++ spine b
  | .skip => [.skip]
  | .label l => [.label l]
  | .region i o d => [.region i o d]
  | .cond c x y => [.cond c x y]
  | .block i c => [.block i c]
  | .loop c => [.loop c]
  | .exit i => [.exit i]
  | .scope c => [.scope c]
  | .goto l => [.goto l]
  | .ret => [.ret]
  | .rangeFunc f p a b => [.rangeFunc f p a b]
  | .refuse w => [.refuse w]
def chain : List Code → Code
  | [] => .skip
  | c :: l => .seq c (chain l)
def thenQ (N : ASt → Prop) (Q : AExit → ASt → Prop) : AExit → ASt → Prop
  | .normal, st => N st
  | e, st => Q e st
def AWs (P : Program) (B : Base) : List Code → (AExit → ASt → Prop) → ASt → Prop
  | [], Q, st => Q .normal st
  | c :: l, Q, st => AW P B c (thenQ (AWs P B l Q) Q) st
theorem AWs.mono {P : Program} {B : Base} : ∀ (l : List Code) {Q Q' : AExit → ASt → Prop} {st : ASt}, AWs P B l Q st → (∀ e st, Q e st → Q' e st) → AWs P B l Q' st
  | [], Q, Q', st, h, hq => hq _ _ h
  | c :: l, Q, Q', st, h, hq => AW.mono h fun e st H => by
      cases e with
      | normal => exact AWs.mono l H hq
      | exit id => exact hq _ _ H
      | goto l' => exact hq _ _ H
      | ret => exact hq _ _ H
theorem AWs.app {P : Program} {B : Base} : ∀ (l1 l2 : List Code) {Q : AExit → ASt → Prop} {st : ASt}, AWs P B l1 (thenQ (AWs P B l2 Q) Q) st → AWs P B (l1 ++ l2) Q st
  | [], l2, Q, st, h => h
  | c :: l1, l2, Q, st, h => AW.mono h fun e st H => by
      cases e with
      | normal => exact AWs.app l1 l2 H
      | exit id => exact H
      | goto l' => exact H
      | ret => exact H
theorem AWs.app' {P : Program} {B : Base} : ∀ (l1 l2 : List Code) {Q : AExit → ASt → Prop} {st : ASt}, AWs P B (l1 ++ l2) Q st → AWs P B l1 (thenQ (AWs P B l2 Q) Q) st
  | [], l2, Q, st, h => h
  | c :: l1, l2, Q, st, h => AW.mono h fun e st H => by
      cases e with
      | normal => exact AWs.app' l1 l2 H
      | exit id => exact H
      | goto l' => exact H
      | ret => exact H
theorem AWs.one {P : Program} {B : Base} {c : Code} {Q : AExit → ASt → Prop} {st : ASt} (h : AWs P B [c] Q st) : AW P B c Q st := AW.mono h fun e st H => by
  cases e <;> exact H
theorem AWs.spine {P : Program} {B : Base} : ∀ (c : Code) {Q : AExit → ASt → Prop} {st : ASt}, AWs P B (spine c) Q st → AW P B c Q st
  | .seq a b, Q, st, h => AW.seqC (AW.mono (AWs.spine a (AWs.app' _ _ h)) fun e st H => by
      cases e with
      | normal => exact AWs.spine b H
      | exit id => exact H
      | goto l' => exact H
      | ret => exact H)
  | .skip, Q, st, h => h.one
  | .label _, Q, st, h => h.one
  | .region .., Q, st, h => h.one
  | .cond .., Q, st, h => h.one
  | .block .., Q, st, h => h.one
  | .loop _, Q, st, h => h.one
  | .exit _, Q, st, h => h.one
  | .scope _, Q, st, h => h.one
  | .goto _, Q, st, h => h.one
  | .ret, Q, st, h => h.one
  | .rangeFunc .., Q, st, h => h.one
  | .refuse _, Q, st, h => h.one
theorem AWs.of_ev {P : Program} (hm : P.follows .mixedOrders = true) {B : Base} : ∀ (l : List Code) {Q : AExit → List AV → List Own → Prop} {sl : List AV} {h : List Own}, ev P B (chain l) Q sl h → AWs P B l (fun e st => Q e st.sl st.h) ⟨sl, h⟩
  | [], Q, sl, h, H => H
  | c :: l, Q, sl, h, H => by
    refine AW.mono (awp_sound hm c _ ⟨sl, h⟩ (ev_awp c _ _ _ H)) fun e st H => ?_
    cases e with
    | normal => exact AWs.of_ev hm l H
    | exit id => exact H
    | goto l' => exact H
    | ret => exact H
theorem ACallL.of_AW {P : Program} {f : FuncId} {fn : Func} {c : Code} {args : List AV} {L0 : List Own} {res : AV} {L1 : List Own} {rs : List ResultVar} {n : Nat} (hf : P.funcs[f]? = some fn) (hb : fn.body = some c) (hc : Callable P f)
    (hrs : fn.results.toList = rs) (hn : fn.ntmps = n) (h : ∀ B : Base, B.h = ofL L0 → AW P B c (aRet P B rs res L1) ⟨args ++ List.replicate (n - args.length) (.val undef), L0⟩) : ACallL P f args L0 res L1 := by
  subst hrs hn
  refine ⟨hc, fun m w vs rel hl => ?_⟩
  let B : Base := ⟨m, ofL L0, w, rel⟩
  have H := h B rfl
  refine calls_of_wp hf hb (wp_mono (H m w _ ⟨rel, fun t => ?_, by simp [hl.1], rfl⟩ (Ev.refl _ _ _)) ?_)
  · by_cases ht : t < args.length
    · have e1 : (args ++ List.replicate (fn.ntmps - args.length) (AV.val undef)).getD t (.val undef) = args[t] := by simp [List.getD, List.getElem?_append_left, ht]
      have hts : t < vs.size := by rw [← hl.1]; exact ht
      have e2 : (vs ++ Array.replicate (fn.ntmps - vs.size) undef).getD t undef = vs[t] := by
        simp only [Array.getD_eq_getD_getElem?, Array.getElem?_append_left hts, Array.getElem?_eq_getElem hts, Option.getD_some]
      simp only
      rw [e1, e2]
      exact hl.2 t _ _ (List.getElem?_eq_getElem ht) (Array.getElem?_eq_getElem hts)
    · have e1 : (args ++ List.replicate (fn.ntmps - args.length) (AV.val undef)).getD t (.val undef) = .val undef := by
        simp only [List.getD_eq_getElem?_getD, List.getElem?_append_right (Nat.le_of_not_lt ht), List.getElem?_replicate]
        split <;> rfl
      have e2 : (vs ++ Array.replicate (fn.ntmps - vs.size) undef).getD t undef = undef := by
        simp only [Array.getD_eq_getD_getElem?]
        rw [Array.getElem?_append_right (by rw [← hl.1]; omega), Array.getElem?_replicate]
        split <;> rfl
      simp only
      rw [e1, e2]
      exact .val _
  · rintro e a' w' ⟨e', st', m', rfl, hq, hs', ev⟩
    have fin : (∃ av, ares P fn.results.toList st'.sl st'.h = some av ∧ ConvS B ⟨[av], st'.h⟩ ⟨[res], L1⟩) → a'.defers = [] ∧ ∃ v, (results fn a'.tmps).run P w' = .ok v w' ∧ ∃ v' m', Ending.returned v = .returned v' ∧ Rel m' (ofL L1) w' ∧ Ev m (ofL L0) w m' (ofL L1) w' ∧ R m' (ofL L1) w' res v' := by
      rintro ⟨av, hav, hcv⟩
      obtain ⟨v, hv, hR⟩ := ares_run hs' hav
      obtain ⟨m2, hs2, ev2⟩ := hcv m' w' ⟨#[v], []⟩ ⟨hs'.rel, fun t => by
        cases t with
        | zero => simpa using hR
        | succ t => simp; exact .val _, rfl, rfl⟩ ev
      refine ⟨hs'.defers, v, hv, v, m2, rfl, hs2.rel, ev2, ?_⟩
      simpa using hs2.slots 0
    cases e' with
    | normal => exact fin hq
    | ret => exact fin hq
    | exit id => exact hq.elim
    | goto l => exact hq.elim
theorem ACallL.of_body {P : Program} {f : FuncId} {fn : Func} {c : Code} {args : List AV} {L0 : List Own} {res : AV} {L1 : List Own} {rs : List ResultVar} {n : Nat} (hf : P.funcs[f]? = some fn) (hb : fn.body = some c) (hc : Callable P f)
    (hrs : fn.results.toList = rs) (hn : fn.ntmps = n) (h : ∀ B : Base, B.h = ofL L0 → AW P B c (fun e st => evEnd P B rs res L1 e st.sl st.h) ⟨args ++ List.replicate (n - args.length) (.val undef), L0⟩) : ACallL P f args L0 res L1 := by
  refine ACallL.of_AW hf hb hc hrs hn fun B hB => AW.mono (h B hB) fun e st He => ?_
  have fin : (qSome (ares P rs st.sl st.h) fun av => frcW av fun av => qConv B [av] st.h [res] L1) → ∃ av, ares P rs st.sl st.h = some av ∧ ConvS B ⟨[av], st.h⟩ ⟨[res], L1⟩ := by
    intro H
    cases hr : ares P rs st.sl st.h with
    | none => rw [hr] at H; exact H.elim
    | some av =>
      rw [hr] at H
      simp only [qSome, frcW_eq] at H
      unfold qConv at H
      exact ⟨av, rfl, H⟩
  cases e with
  | normal => exact fin He
  | ret => exact fin He
  | exit id => exact He.elim
  | goto l => exact He.elim
def qQ (Q : AExit → List AV → List Own → Prop) : AExit → ASt → Prop := fun e st => Q e st.sl st.h
def qAWs (P : Program) (B : Base) (L : List Code) (Q : AExit → List AV → List Own → Prop) (sl : List AV) (h : List Own) : Prop := AWs P B L (qQ Q) ⟨sl, h⟩
theorem ACallL.of_AWs {P : Program} {f : FuncId} {fn : Func} {c : Code} {args : List AV} {L0 : List Own} {res : AV} {L1 : List Own} {rs : List ResultVar} {n : Nat} (hf : P.funcs[f]? = some fn) (hb : fn.body = some c) (hc : Callable P f)
    (hrs : fn.results.toList = rs) (hn : fn.ntmps = n) {L : List Code} (hL : spine c = L) (h : ∀ B : Base, B.h = ofL L0 → qAWs P B L (evEnd P B rs res L1) (args ++ List.replicate (n - args.length) (.val undef)) L0) : ACallL P f args L0 res L1 :=
  ACallL.of_body hf hb hc hrs hn fun B hB => AWs.spine c (by rw [hL]; exact h B hB)
theorem qAWs.cut {P : Program} (hm : P.follows .mixedOrders = true) (k : Nat) {B : Base} {L L1 L2 : List Code} {c1 : Code} {Q : AExit → List AV → List Own → Prop} {sl : List AV} {h : List Own} (e1 : L.take k = L1) (e2 : L.drop k = L2) (hc : chain L1 = c1) (hk : L2.isEmpty = false) {X : Type} (F : X → List AV) (G : X → List Own) (I : X → Prop)
    (first : frcVV sl fun sl => frcOs h fun h => ev P B c1 (fun e sl h => match e with | .normal => ∃ x, I x ∧ qConv B sl h (F x) (G x) | e => Q e sl h) sl h)
    (second : ∀ x, I x → qAWs P B L2 Q (F x) (G x)) : qAWs P B L Q sl h := by
  subst e1 e2 hc
  unfold qAWs
  rw [← List.take_append_drop k L]
  simp only [frcVV_eq, frcOs_eq] at first
  refine AWs.app _ _ (AWs.mono _ (AWs.of_ev hm _ first) fun e st H => ?_)
  cases e with
  | normal =>
    obtain ⟨x, hx, hcv⟩ := H
    have h3 := second x hx
    unfold qAWs at h3
    unfold qConv at hcv
    show AWs P B (L.drop k) _ st
    cases hd : L.drop k with
    | nil => rw [hd] at hk; cases hk
    | cons a l =>
      rw [hd] at h3
      exact AW.conv hcv h3
  | exit id => exact H
  | goto l' => exact H
  | ret => exact H
theorem qAWs.fin {P : Program} (hm : P.follows .mixedOrders = true) {B : Base} {L : List Code} {c : Code} {Q : AExit → List AV → List Own → Prop} {sl : List AV} {h : List Own} (hc : chain L = c) (H : frcVV sl fun sl => frcOs h fun h => ev P B c Q sl h) : qAWs P B L Q sl h := by
  subst hc
  simp only [frcVV_eq, frcOs_eq] at H
  exact AWs.of_ev hm _ H
theorem ACallL.of_q {P : Program} {f : FuncId} {args : List AV} {L0 L1 : List Own} {res : AV} (hf : Callable P f) (H : ∀ B : Base, B.h = ofL L0 → qCall P f args L0 fun av _ _ h' => qConv B [av] h' [res] L1) : ACallL P f args L0 res L1 := by
  refine ⟨hf, fun m w vs rel hl => ?_⟩
  have H' := H ⟨m, ofL L0, w, rel⟩ rfl
  unfold qCall at H'
  obtain ⟨rd, T, res', hA, hF, hK⟩ := H'
  refine (hA.2 (ofL L0) m w vs (fun p hp => hF.1 p hp) rel hl).mono ?_
  rintro e w' ⟨v, m', rfl, rel', ev', hv⟩
  rw [← ofL_apT hF.2] at rel' ev' hv
  unfold qConv at hK
  obtain ⟨m2, h1, h2⟩ := hK m' w' ⟨#[v], []⟩ ⟨rel', fun t => by
    cases t with
    | zero => simpa using hv
    | succ t => simp; exact .val _, rfl, rfl⟩ ev'
  exact ⟨v, m2, rfl, h1.rel, h2, by simpa using h1.slots 0⟩
end Go.Proofs.Ytceohcbokbalhaa

/- A connection's small functions on data: what was sent, what may be, a segment is sent. Conditions: lengths. -/
namespace Go.Proofs.Ytceohcbokbalhaa
open Go.RowKit
set_option linter.unusedVariables false
set_option linter.unusedSimpArgs false
set_option maxRecDepth 100000
set_option maxHeartbeats 4000000
theorem swithin_l (n m : Int) : ACallL Try.prog 49 [.val (.int .i64 n), .val (.int .i64 m)] [.perm] (.val (.bool (within n m))) [.perm] := by
  unfold within
  refine ACallL.of_ev mixed Try.func49 rfl (fun a w => Try.call49 a w) (congrArg Array.toList Try.results49) Try.ntmps49 fun B hB => ?_; ((conv => whnf); (repeat' ((first | (with_reducible refine qif_t (by assumption) ?_) | (with_reducible refine qif_f (by assumption) ?_) | ((with_reducible refine qif_t ?_ ?_); focus decide) | ((with_reducible refine qif_f ?_ ?_); focus decide) | with_reducible refine qif_i (fun _ => ?_) (fun _ => ?_)) <;> (conv => whnf)))); all_goals (refine qConv.of hB [] [(0, 0)] [] (by rfl) ?_; focus ((conv => whnf); (repeat (refine And.intro ?_ ?_; rotate_left; (conv => whnf))); exact trivial; all_goals (try exact andT))); all_goals ((try congr 1); first | done | omega | (simp_all; done) | (simp_all; omega))
theorem segIP_l (n : Int) : ACallL Try.prog 26 [.val (.int .i64 n)] [.perm] (.val (.bool (within n 4294967295))) [.perm] := by
  refine ACallL.of_ev mixed Try.func26 rfl (fun a w => Try.call26 a w) (congrArg Array.toList Try.results26) Try.ntmps26 fun B hB => ?_
  ((conv => whnf); (repeat' ((first | (with_reducible first | refine qif_n ?_ | refine qif_t ‹_› ?_ | refine qif_f ‹_› ?_) | ((with_reducible refine qif_t ?_ ?_); focus decide) | ((with_reducible refine qif_f ?_ ?_); focus decide) | (with_reducible refine And.intro (orderOk_i ?ho) ?_; (case ho => kernel_rfl)) | (with_reducible first | refine qif_i (fun _ => ?_) (fun _ => ?_) | refine frcVs_i ?_ | refine frcRs_i ?_) | ((with_reducible refine qCall.pure (swithin_l _ _) ?_ ?_ ?_ ?_); rotate_left 4; exact trivial; exact plT; exact plT)) <;> (conv => whnf))))
  all_goals (refine qConv.of hB [] [(0, 0)] [] (by rfl) ?_; focus ((conv => whnf); (repeat (refine And.intro ?_ ?_; rotate_left; (conv => whnf))); exact trivial; all_goals (try exact andT)))
theorem segPort_l (n : Int) : ACallL Try.prog 50 [.val (.int .i64 n)] [.perm] (.val (.bool (within n 65535))) [.perm] := by
  refine ACallL.of_ev mixed Try.func50 rfl (fun a w => Try.call50 a w) (congrArg Array.toList Try.results50) Try.ntmps50 fun B hB => ?_
  ((conv => whnf); (repeat' ((first | (with_reducible first | refine qif_n ?_ | refine qif_t ‹_› ?_ | refine qif_f ‹_› ?_) | ((with_reducible refine qif_t ?_ ?_); focus decide) | ((with_reducible refine qif_f ?_ ?_); focus decide) | (with_reducible refine And.intro (orderOk_i ?ho) ?_; (case ho => kernel_rfl)) | (with_reducible first | refine qif_i (fun _ => ?_) (fun _ => ?_) | refine frcVs_i ?_ | refine frcRs_i ?_) | ((with_reducible refine qCall.pure (swithin_l _ _) ?_ ?_ ?_ ?_); rotate_left 4; exact trivial; exact plT; exact plT)) <;> (conv => whnf))))
  all_goals (refine qConv.of hB [] [(0, 0)] [] (by rfl) ?_; focus ((conv => whnf); (repeat (refine And.intro ?_ ?_; rotate_left; (conv => whnf))); exact trivial; all_goals (try exact andT)))
theorem segMay_l (m : Sg) : ACallL Try.prog 27 [.agg (sgR 0 m)] [.perm] (.val (.bool (sgB m))) [.perm] := by
  obtain ⟨sp, dp, seq, ack, fl, win, data⟩ := m
  have ld : (data.map bR).length = data.length := by simp
  have pd := pl_bytes data
  unfold sgB
  have e1 : decide (data.length ≤ 1460) = decide ((data.length : Int) ≤ 1460) := by rw [decide_eq_decide]; omega
  dsimp only [sgR, sgL]
  rw [e1, ← ld]
  refine ACallL.of_ev mixed Try.func27 rfl (fun a w => Try.call27 a w) (congrArg Array.toList Try.results27) Try.ntmps27 fun B hB => ?_
  ((conv => whnf); (repeat' ((first | (with_reducible first | refine qif_n ?_ | refine qif_t ‹_› ?_ | refine qif_f ‹_› ?_) | ((with_reducible refine qif_t ?_ ?_); focus decide) | ((with_reducible refine qif_f ?_ ?_); focus decide) | (with_reducible refine And.intro (orderOk_i ?ho) ?_; (case ho => kernel_rfl)) | (with_reducible first | refine qif_i (fun _ => ?_) (fun _ => ?_) | refine frcVs_i ?_ | refine frcRs_i ?_) | ((with_reducible refine qCall.pure (swithin_l _ _) ?_ ?_ ?_ ?_); rotate_left 4; exact trivial; exact plT; exact plT) | ((with_reducible refine qCall.pure (segPort_l _) ?_ ?_ ?_ ?_); rotate_left 4; exact trivial; exact plT; exact plT)) <;> (conv => whnf))))
  all_goals (refine qConv.of hB [] [(0, 0)] [] (by rfl) ?_; focus ((conv => whnf); (repeat (refine And.intro ?_ ?_; rotate_left; (conv => whnf))); exact trivial; all_goals (try exact andT)))
  all_goals simp only [*, Bool.true_and, Bool.false_and]
theorem sent_dot (una nx : Int) : ACallL Try.prog 80 [.agg [dot, dot, dot, dot, dot, .val (.int .i64 una), .val (.int .i64 nx), dot, dot, dot, dot, dot, dot, dot, dot, dot]] [.perm, .dead] (.val (.int .i64 (wdiff nx una))) [.perm, .dead] := by
  refine ACallL.of_ev mixed Try.func80 rfl (fun a w => Try.call80 a w) (congrArg Array.toList Try.results80) Try.ntmps80 fun B hB => ?_
  ((conv => whnf); (repeat' ((first | (with_reducible first | refine qif_n ?_ | refine qif_t ‹_› ?_ | refine qif_f ‹_› ?_) | ((with_reducible refine qif_t ?_ ?_); focus decide) | ((with_reducible refine qif_f ?_ ?_); focus decide) | (with_reducible refine And.intro (orderOk_i ?ho) ?_; (case ho => kernel_rfl)) | (with_reducible first | refine qif_i (fun _ => ?_) (fun _ => ?_) | refine frcVs_i ?_ | refine frcRs_i ?_) | ((with_reducible refine qCall.pure (spanDiff_l _ _) ?_ ?_ ?_ ?_); rotate_left 4; exact trivial; exact plT; exact plT)) <;> (conv => whnf))))
  (refine qConv.of hB [] [(0, 0)] [] (by rfl) ?_; focus ((conv => whnf); (repeat (refine And.intro ?_ ?_; rotate_left; (conv => whnf))); exact trivial; all_goals (try exact andT)))
theorem blind16 {a0 a1 a2 a3 a4 a7 a8 a9 a10 a11 a12 a13 a14 a15 : AV} (una nx : Int) (h1 : [a0, a1, a2, a3, a4, a7, a8, a9, a10, a11, a12, a13, a14, a15].all AV.one = true) :
    BlindL [.agg [a0, a1, a2, a3, a4, .val (.int .i64 una), .val (.int .i64 nx), a7, a8, a9, a10, a11, a12, a13, a14, a15]] [.agg [dot, dot, dot, dot, dot, .val (.int .i64 una), .val (.int .i64 nx), dot, dot, dot, dot, dot, dot, dot, dot, dot]] := by
  simp only [List.all_cons, List.all_nil, Bool.and_eq_true] at h1
  obtain ⟨b0, b1, b2, b3, b4, b7, b8, b9, b10, b11, b12, b13, b14, b15, -⟩ := h1
  have : BlindL [a0, a1, a2, a3, a4, .val (.int .i64 una), .val (.int .i64 nx), a7, a8, a9, a10, a11, a12, a13, a14, a15] [dot, dot, dot, dot, dot, .val (.int .i64 una), .val (.int .i64 nx), dot, dot, dot, dot, dot, dot, dot, dot, dot] :=
    .cons (.dot _ b0) (.cons (.dot _ b1) (.cons (.dot _ b2) (.cons (.dot _ b3) (.cons (.dot _ b4) (.cons (.val _) (.cons (.val _) (.cons (.dot _ b7) (.cons (.dot _ b8) (.cons (.dot _ b9) (.cons (.dot _ b10) (.cons (.dot _ b11) (.cons (.dot _ b12) (.cons (.dot _ b13) (.cons (.dot _ b14) (.cons (.dot _ b15) .nil)))))))))))))))
  exact .cons (.agg _ _ this.1 this.2) .nil
theorem qCall.sent {una nx : Int} {a0 a1 a2 a3 a4 a7 a8 a9 a10 a11 a12 a13 a14 a15 : AV} {h : List Own} {K : AV → List Nat → List Nat → List Own → Prop} (h1 : [a0, a1, a2, a3, a4, a7, a8, a9, a10, a11, a12, a13, a14, a15].all AV.one = true) (hq : K (.val (.int .i64 (wdiff nx una))) [] [] h) : qCall Try.prog 80 [.agg [a0, a1, a2, a3, a4, .val (.int .i64 una), .val (.int .i64 nx), a7, a8, a9, a10, a11, a12, a13, a14, a15]] h K :=
  qCall.blind (sent_dot una nx) (blind16 una nx h1) hq
abbrev iR (n : Int) : List AV := [.val (.int .i64 n)]
def ix5 (x : Int) : Int := if x = 3 then 0 else if x = 4 then 1 else if x = 6 then 2 else if x = 7 then 3 else if x = 8 then 4 else -1
theorem index5_l (x : Int) : ACallL Try.prog 105 [.list 0 1 ([3, 4, 6, 7, 8].map iR), .val (.int .i64 x)] [.perm] (.val (.int .i64 (ix5 x))) [.perm] := by
  have w1 : IntKind.i64.wrap 1 = 1 := by decide
  have w2 : IntKind.i64.wrap (1 + 1) = 2 := by decide
  have w3 : IntKind.i64.wrap (2 + 1) = 3 := by decide
  have w4 : IntKind.i64.wrap (3 + 1) = 4 := by decide
  refine ACallL.of_ev mixed Try.func105 rfl (fun a w => Try.call105 a w) (congrArg Array.toList Try.results105) Try.ntmps105 fun B hB => ?_
  ((conv => whnf); (repeat' ((first | (with_reducible first | refine qif_n ?_ | refine qif_t ‹_› ?_ | refine qif_f ‹_› ?_) | ((with_reducible refine qif_t ?_ ?_); focus decide) | ((with_reducible refine qif_f ?_ ?_); focus decide) | (with_reducible refine And.intro (orderOk_i ?ho) ?_; (case ho => kernel_rfl)) | (with_reducible first | refine qif_i (fun _ => ?_) (fun _ => ?_) | refine frcVs_i ?_ | refine frcRs_i ?_) | (refine qAW.unroll mixed 6 ?_)) <;> (conv => whnf))))
  all_goals (refine qConv.of hB [] [(0, 0)] [] (by rfl) ?_; focus ((conv => whnf); (repeat (refine And.intro ?_ ?_; rotate_left; (conv => whnf))); exact trivial; all_goals (try exact andT)))
  all_goals (congr 1; simp_all [ix5])
theorem contains5_l (x : Int) : ACallL Try.prog 99 [.list 0 1 ([3, 4, 6, 7, 8].map iR), .val (.int .i64 x)] [.perm] (.val (.bool (finOut x))) [.perm] := by
  refine ACallL.of_ev mixed Try.func99 rfl (fun a w => Try.call99 a w) (congrArg Array.toList Try.results99) Try.ntmps99 fun B hB => ?_
  ((conv => whnf); (repeat' ((first | (with_reducible first | refine qif_n ?_ | refine qif_t ‹_› ?_ | refine qif_f ‹_› ?_) | ((with_reducible refine qif_t ?_ ?_); focus decide) | ((with_reducible refine qif_f ?_ ?_); focus decide) | (with_reducible refine And.intro (orderOk_i ?ho) ?_; (case ho => kernel_rfl)) | (with_reducible first | refine qif_i (fun _ => ?_) (fun _ => ?_) | refine frcVs_i ?_ | refine frcRs_i ?_)) <;> (conv => whnf))))
  ((with_reducible refine qCall.reads (index5_l x) [(0, 0)] [] ?hk ?_); (case hk => rfl); (conv => whnf); (repeat (refine And.intro ?_ ?_; exact sideT; (conv => whnf))); (fail_if_success (with_reducible first | refine And.intro (eqv_i ?_) ?_ | refine And.intro (ren_i ?_) ?_)))
  ((conv => whnf); (repeat' ((first | (with_reducible first | refine qif_n ?_ | refine qif_t ‹_› ?_ | refine qif_f ‹_› ?_) | ((with_reducible refine qif_t ?_ ?_); focus decide) | ((with_reducible refine qif_f ?_ ?_); focus decide) | (with_reducible refine And.intro (orderOk_i ?ho) ?_; (case ho => kernel_rfl)) | (with_reducible first | refine qif_i (fun _ => ?_) (fun _ => ?_) | refine frcVs_i ?_ | refine frcRs_i ?_)) <;> (conv => whnf))))
  (refine qConv.of hB [] [(0, 0)] [] (by rfl) ?_; focus ((conv => whnf); (repeat (refine And.intro ?_ ?_; rotate_left; (conv => whnf))); exact trivial; all_goals (try exact andT)))
  congr 1
  unfold ix5 finOut
  rw [Bool.eq_iff_iff]
  simp only [decide_eq_true_eq]
  split <;> (try split) <;> (try split) <;> (try split) <;> (try split) <;> omega
theorem finOut_l (x : Int) : ACallL Try.prog 92 [.val (.int .i64 x)] [.perm] (.val (.bool (finOut x))) [.perm] := by
  refine ACallL.of_ev mixed Try.func92 rfl (fun a w => Try.call92 a w) (congrArg Array.toList Try.results92) Try.ntmps92 fun B hB => ?_
  ((conv => whnf); (repeat' ((first | (with_reducible first | refine qif_n ?_ | refine qif_t ‹_› ?_ | refine qif_f ‹_› ?_) | ((with_reducible refine qif_t ?_ ?_); focus decide) | ((with_reducible refine qif_f ?_ ?_); focus decide) | (with_reducible refine And.intro (orderOk_i ?ho) ?_; (case ho => kernel_rfl)) | (with_reducible first | refine qif_i (fun _ => ?_) (fun _ => ?_) | refine frcVs_i ?_ | refine frcRs_i ?_)) <;> (conv => whnf))))
  ((with_reducible refine qCall.reads (contains5_l x) [] [(0, 1)] ?hk ?_); (case hk => rfl); (conv => whnf); (repeat (refine And.intro ?_ ?_; exact sideT; (conv => whnf))); (fail_if_success (with_reducible first | refine And.intro (eqv_i ?_) ?_ | refine And.intro (ren_i ?_) ?_)))
  ((conv => whnf); (repeat' ((first | (with_reducible first | refine qif_n ?_ | refine qif_t ‹_› ?_ | refine qif_f ‹_› ?_) | ((with_reducible refine qif_t ?_ ?_); focus decide) | ((with_reducible refine qif_f ?_ ?_); focus decide) | (with_reducible refine And.intro (orderOk_i ?ho) ?_; (case ho => kernel_rfl)) | (with_reducible first | refine qif_i (fun _ => ?_) (fun _ => ?_) | refine frcVs_i ?_ | refine frcRs_i ?_)) <;> (conv => whnf))))
  (refine qConv.of hB [] [(0, 0)] [] (by rfl) ?_; focus ((conv => whnf); (repeat (refine And.intro ?_ ?_; rotate_left; (conv => whnf))); exact trivial; all_goals (try exact andT)))
end Go.Proofs.Ytceohcbokbalhaa

/- Segments are compared with themselves; how much a script weighs; what fits: on data. Conditions: lengths. -/
namespace Go.Proofs.Ytceohcbokbalhaa
open Go.RowKit
set_option linter.unusedVariables false
set_option linter.unusedSimpArgs false
set_option maxRecDepth 100000
set_option maxHeartbeats 4000000
end Go.Proofs.Ytceohcbokbalhaa

/- A connection: may it be? Its own copy; a segment is sent. Conditions: lengths. -/
namespace Go.Proofs.Ytceohcbokbalhaa
open Go.RowKit
set_option linter.unusedVariables false
set_option linter.unusedSimpArgs false
set_option maxRecDepth 100000
set_option maxHeartbeats 4000000
theorem lmap {α β : Type} (f : α → β) (l : List α) : l.length = (l.map f).length := by simp
theorem numbers_l (c : Cn) (hl : c.out.length ≤ 100000000) : ACallL Try.prog 68 [.agg (cnR 0 c)] [.perm] (.val (.bool (numB c))) [.perm] := by
  have px := pl_bytes c.out
  have py := pl_parts c.parts
  have w := IntWalk.i64_in ((c.out.length : Int) + 1) (by omega)
  unfold numB Cn.sent eqTm tm0
  rw [← w, lmap bR c.out, lmap (prt 0) c.parts]
  clear w
  obtain ⟨link, ip, pp, port, st, una, nx, win, out, inx, parts, closing, ⟨on, left, wait, tries⟩⟩ := c
  dsimp only [cnR, cnL] at px py ⊢
  refine ACallL.of_ev mixed Try.func68 rfl (fun a w => Try.call68 a w) (congrArg Array.toList Try.results68) Try.ntmps68 fun B hB => ?_
  ((conv => whnf); (repeat' ((first | (with_reducible first | refine qif_n ?_ | refine qif_t ‹_› ?_ | refine qif_f ‹_› ?_) | ((with_reducible refine qif_t ?_ ?_); focus decide) | ((with_reducible refine qif_f ?_ ?_); focus decide) | (with_reducible refine And.intro (orderOk_i ?ho) ?_; (case ho => kernel_rfl)) | (with_reducible first | refine qif_i (fun _ => ?_) (fun _ => ?_) | refine frcVs_i ?_ | refine frcRs_i ?_) | (refine qCall.sent rfl ?_) | (refine qOpen.eq flat48 rfl rfl rfl rfl ?_)) <;> (conv => whnf))))
  all_goals (refine qConv.of hB [] [(0, 0)] [] (by rfl) ?_; focus ((conv => whnf); (repeat (refine And.intro ?_ ?_; rotate_left; (conv => whnf))); exact trivial; all_goals (try exact andT)))
  all_goals (simp only [*, cond_true, cond_false, Bool.true_or, Bool.or_true, Bool.false_or, Bool.or_false, Bool.true_and, Bool.false_and, Bool.and_true, Bool.and_false, Bool.not_true, Bool.not_false])
def mayC (c : Cn) : Bool :=
  !decide (c.link < 0) && (!decide (1099511627776 < c.link) && (within c.ip 4294967295 && (within c.pp 65535 && (within c.port 65535 && (within c.win 65535 && (!decide (c.st < 0) && (!decide (8 < c.st) && (within c.una 4294967295 && (within c.nx 4294967295 &&
    (!decide (8192 < (c.out.length : Int)) && (mayB c.inx c.parts && (tmB c.tm && numB c))))))))))))
theorem mayC_eq (c : Cn) : mayC c = cnB c := by
  unfold mayC cnB
  rw [Bool.eq_iff_iff]
  simp only [within, Bool.and_eq_true, Bool.not_eq_true', decide_eq_false_iff_not, decide_eq_true_eq]
  constructor
  · rintro ⟨h1, h2, h3, h4, h5, h6, h7, h8, h9, h10, h11, h12, h13, h14⟩
    exact ⟨⟨by omega, by omega⟩, h3, h4, h5, h7, h8, h9, h10, h6, h11, h12, h13, h14⟩
  · rintro ⟨h1, h3, h4, h5, h7, h8, h9, h10, h6, h11, h12, h13, h14⟩
    exact ⟨by omega, by omega, h3, h4, h5, h6, h7, h8, h9, h10, h11, h12, h13, h14⟩
theorem tcpMay_l (c : Cn) (hc : CnLen c) : ACallL Try.prog 48 [.agg (cnR 0 c)] [.perm] (.val (.bool (cnB c))) [.perm] := by
  have px := pl_bytes c.out
  have py := pl_parts c.parts
  have cN := numbers_l c hc.1
  have cB := may_l c.inx c.parts hc.2
  have cT := tmay_l c.tm
  rw [← mayC_eq]
  unfold mayC
  obtain ⟨bn, hn⟩ : ∃ b, numB c = b := ⟨_, rfl⟩
  obtain ⟨bb, hb⟩ : ∃ b, mayB c.inx c.parts = b := ⟨_, rfl⟩
  obtain ⟨bt, ht⟩ : ∃ b, tmB c.tm = b := ⟨_, rfl⟩
  rw [hn] at cN ⊢
  rw [hb] at cB ⊢
  rw [ht] at cT ⊢
  rw [lmap bR c.out]
  clear hn hb ht hc
  obtain ⟨link, ip, pp, port, st, una, nx, win, out, inx, parts, closing, ⟨on, left, wait, tries⟩⟩ := c
  dsimp only [cnR, cnL, tmC] at px py cN cB cT ⊢
  refine ACallL.of_ev mixed Try.func48 rfl (fun a w => Try.call48 a w) (congrArg Array.toList Try.results48) Try.ntmps48 fun B hB => ?_
  ((conv => whnf); (repeat' ((first | (with_reducible first | refine qif_n ?_ | refine qif_t ‹_› ?_ | refine qif_f ‹_› ?_) | ((with_reducible refine qif_t ?_ ?_); focus decide) | ((with_reducible refine qif_f ?_ ?_); focus decide) | (with_reducible refine And.intro (orderOk_i ?ho) ?_; (case ho => kernel_rfl)) | (with_reducible first | refine qif_i (fun _ => ?_) (fun _ => ?_) | refine frcVs_i ?_ | refine frcRs_i ?_) | ((with_reducible refine qCall.pure (segIP_l _) ?_ ?_ ?_ ?_); rotate_left 4; exact trivial; exact plT; exact plT) | ((with_reducible refine qCall.pure (segPort_l _) ?_ ?_ ?_ ?_); rotate_left 4; exact trivial; exact plT; exact plT) | ((with_reducible refine qCall.pure (spanIs_l _) ?_ ?_ ?_ ?_); rotate_left 4; exact trivial; exact plT; exact plT) | ((with_reducible refine qCall.pure (cN) ?_ ?_ ?_ ?_); rotate_left 4; exact trivial; exact plT; exact plT) | ((with_reducible refine qCall.pure (cB) ?_ ?_ ?_ ?_); rotate_left 4; exact trivial; exact plT; exact plT) | ((with_reducible refine qCall.pure (cT) ?_ ?_ ?_ ?_); rotate_left 4; exact trivial; exact plT; exact plT)) <;> (conv => whnf))))
  all_goals (refine qConv.of hB [] [(0, 0)] [] (by rfl) ?_; focus ((conv => whnf); (repeat (refine And.intro ?_ ?_; rotate_left; (conv => whnf))); exact trivial; all_goals (try exact andT)))
  clear cN cB cT px py
  all_goals (simp only [*, cond_true, cond_false, Bool.true_or, Bool.or_true, Bool.false_or, Bool.or_false, Bool.true_and, Bool.false_and, Bool.and_true, Bool.and_false, Bool.not_true, Bool.not_false])
end Go.Proofs.Ytceohcbokbalhaa

/- A step of a connection on data: its own copy, a segment is sent, it is closed. Conditions: lengths. -/
namespace Go.Proofs.Ytceohcbokbalhaa
open Go.RowKit
set_option linter.unusedVariables false
set_option linter.unusedSimpArgs false
set_option maxRecDepth 100000
set_option maxHeartbeats 4000000
abbrev spL (o p sg tl : AV) (c : Cn) : List AV := [.val (.int .i64 c.link), .val (.int .i64 c.ip), .val (.int .i64 c.pp), .val (.int .i64 c.port), .val (.int .i64 c.st), .val (.int .i64 c.una), .val (.int .i64 c.nx), .val (.int .i64 c.win), o, .val (.int .i64 c.inx), p, .val (.bool c.closing), .val (.bool c.tm.on), .val (.int .i64 c.tm.left), .val (.int .i64 c.tm.wait), .val (.int .i64 c.tm.tries), sg, tl]
abbrev oL : Bool → Nat → List Int → AV
  | true, r, xs => gL r xs
  | false, r, xs => bL r xs
abbrev spN (g : Bool) (o p d t s e : Nat) (x : Stp) : List AV := spL (oL g o x.c.out) (.list p 2 (x.c.parts.map (prg d))) (.glist s 7 (x.out.map (sgG e))) (gL t x.told) x.c
abbrev spR (g : Bool) (s d : Nat) (x : Stp) : List AV := spL (oL g 2 x.c.out) (.list 3 2 (x.c.parts.map (prg 4))) (.glist s 7 (x.out.map (sgG d))) (gL 5 x.told) x.c
abbrev spY (g : Bool) (s d : Nat) (x : Stp) (l : List Sg) : List AV := spL (oL g 2 x.c.out) (.list 3 2 (x.c.parts.map (prg 4))) (.glist s 7 (l.map (sgG d))) (gL 5 x.told) x.c
abbrev spO (row : List AV) : Own := .live ⟨18, 100, [row]⟩
theorem segs_gg {L I F : Prs} {h : Hp} {r r' : Nat} (h0 : I.has r r' = true) (l : List Sg) : RowsRen (qOf L I F) h (l.map (sgG r)) (l.map (sgG r')) :=
  RowsRen.mapF l _ _ fun m _ => .cons (.val _) (.cons (.val _) (.cons (.val _) (.cons (.val _) (.cons (.val _) (.cons (.val _) (.cons (Ren.gg h0 m.data) .nil))))))
theorem Ren.sgs {L I F : Prs} {h : Hp} {r r' d d' : Nat} (h0 : I.has r r' = true) (h1 : I.has d d' = true) (l : List Sg) : Ren (qOf L I F) h (.glist r 7 (l.map (sgG d))) (.glist r' 7 (l.map (sgG d'))) := by
  obtain ⟨a, b, c⟩ := segs_gg (L := L) (I := I) (F := F) (h := h) h1 l
  exact .glist _ _ _ _ _ ((Prs.has_iff I r r').1 h0) a b c
theorem Ren.pgl {L I F : Prs} {h : Hp} {r r' d d' : Nat} (h0 : I.has r r' = true) (h1 : I.has d d' = true) (l : List Pt) : Ren (qOf L I F) h (.list r 2 (l.map (prg d))) (.list r' 2 (l.map (prg d'))) := by
  obtain ⟨a, b, c⟩ := parts_gg (L := L) (I := I) (F := F) (h := h) h1 l
  exact .list _ _ _ _ _ ((Prs.has_iff I r r').1 h0) a b c
theorem Ren.oo {L I F : Prs} {h : Hp} {r r' : Nat} (h0 : I.has r r' = true) (g : Bool) (xs : List Int) : Ren (qOf L I F) h (oL g r xs) (oL g r' xs) := by
  cases g
  · exact Ren.ll h0 xs
  · exact Ren.gg h0 xs
theorem Ren.sgs1 {L I F : Prs} {h : Hp} {r r' d d' e : Nat} {row : List AV} {m : Sg} {l : List Sg} (h0 : I.has r r' = true) (h1 : I.has d d' = true) (hr : row = sgG e m) (h2 : I.has e d' = true) : Ren (qOf L I F) h (.glist r 7 (l.map (sgG d) ++ [row])) (.glist r' 7 ((l ++ [m]).map (sgG d'))) := by
  subst hr
  obtain ⟨a, b, c⟩ := (segs_gg (L := L) (I := I) (F := F) (h := h) h1 l).app (segs_gg (L := L) (I := I) (F := F) (h := h) h2 [m])
  rw [← List.map_append] at a b c
  exact .glist _ _ _ _ _ ((Prs.has_iff I r r').1 h0) a b c
theorem dt_AhTcpC_ROW {p : Prop} (h : p := by first | ((first | rfl | (refine RowsRen.one ?_; (repeat (refine Cells.cons ?_ ?_; focus (first | exact .val _ | exact Ren.gg rfl _ | exact Ren.ll rfl _ | exact Ren.g2 rfl _ | exact Ren.oo rfl _ _ | exact Ren.vnil _ _ | exact Ren.vgnil _ _ | exact Ren.sgs rfl rfl _ | exact Ren.sgs1 rfl rfl rfl rfl | exact Ren.pgl rfl rfl _ | fail))); exact Cells.nil) | exact segs_gg rfl _ | exact parts_gg rfl _ | exact bytes_cells _); done) | fail) : p := h
theorem send_l (g : Bool) (x : Stp) (seq fl : Int) (data : List Int) (hd : data.length ≤ 100000000) (hs : x.out.length ≤ 100000000) :
    ACallL Try.prog 74 [.ptr 1 0 0, .val (.int .i64 seq), .val (.int .i64 fl), bL 2 data] [.perm, spO (spR g 6 7 x), .perm, .perm, .perm, .perm, .uniq, .uniq]
      (.tup []) [.perm, spO (spR g 8 9 (x.seg seq fl data)), .perm, .perm, .perm, .perm, .dead, .dead, .uniq, .uniq] := by
  dsimp only [spR, spL, Stp.seg] at hs ⊢
  cases g
  all_goals
    dsimp only [oL]
    refine ACallL.of_ev mixed Try.func74 rfl (fun a w => Try.call74 a w) (congrArg Array.toList Try.results74) Try.ntmps74 fun B hB => ?_
    ((conv => whnf); (repeat' ((first | (with_reducible first | refine qif_n ?_ | refine qif_t ‹_› ?_ | refine qif_f ‹_› ?_) | ((with_reducible refine qif_t ?_ ?_); focus decide) | ((with_reducible refine qif_f ?_ ?_); focus decide) | (with_reducible refine And.intro (orderOk_i ?ho) ?_; (case ho => kernel_rfl)) | (with_reducible first | refine qif_i (fun _ => ?_) (fun _ => ?_) | refine frcVs_i ?_ | refine frcRs_i ?_)) <;> (conv => whnf))))
    ((with_reducible refine qCall.fresh (fun r => gL r data) (clone_l data hd) [(0, 2)] [] ?hk ?_); (case hk => rfl); (conv => whnf); (repeat (refine And.intro ?_ ?_; exact sideT; (conv => whnf))); (fail_if_success (with_reducible first | refine And.intro (eqv_i ?_) ?_ | refine And.intro (ren_i ?_) ?_)))
    ((conv => whnf); (repeat' ((first | (with_reducible first | refine qif_n ?_ | refine qif_t ‹_› ?_ | refine qif_f ‹_› ?_) | ((with_reducible refine qif_t ?_ ?_); focus decide) | ((with_reducible refine qif_f ?_ ?_); focus decide) | (with_reducible refine And.intro (orderOk_i ?ho) ?_; (case ho => kernel_rfl)) | (with_reducible first | refine qif_i (fun _ => ?_) (fun _ => ?_) | refine frcVs_i ?_ | refine frcRs_i ?_) | (refine qCase_i (apG (nb := 72) rfl rfl rfl rfl rfl rfl rfl rfl rfl rfl (by decide) rfl (by simp; omega)) ?_)) <;> (conv => whnf))))
    (refine qConv.of hB [(1, 1)] [(0, 0), (2, 2), (3, 3), (4, 4), (5, 5), (10, 8), (7, 9), (8, 9)] [] (by rfl) ?_; focus ((conv => whnf); (repeat (refine And.intro ?_ ?_; rotate_left; (conv => whnf))); exact trivial; all_goals (try exact andT)))
    all_goals (try exact dt_AhTcpC_ROW)
theorem stepAck_l (g : Bool) (x : Stp) (hs : x.out.length ≤ 100000000) :
    ACallL Try.prog 76 [.ptr 1 0 0] [.perm, spO (spR g 6 7 x), .perm, .perm, .perm, .perm, .uniq, .uniq]
      (.tup []) [.perm, spO (spR g 8 9 x.acks), .perm, .perm, .perm, .perm, .dead, .dead, .uniq, .uniq] := by
  have cS := send_l g x x.c.nx 16 [] (by simp) hs
  dsimp only [spR, spL, Stp.seg, Stp.acks] at hs cS ⊢
  cases g
  all_goals
    dsimp only [oL] at cS ⊢
    refine ACallL.of_ev mixed Try.func76 rfl (fun a w => Try.call76 a w) (congrArg Array.toList Try.results76) Try.ntmps76 fun B hB => ?_
    ((conv => whnf); (repeat' ((first | (with_reducible first | refine qif_n ?_ | refine qif_t ‹_› ?_ | refine qif_f ‹_› ?_) | ((with_reducible refine qif_t ?_ ?_); focus decide) | ((with_reducible refine qif_f ?_ ?_); focus decide) | (with_reducible refine And.intro (orderOk_i ?ho) ?_; (case ho => kernel_rfl)) | (with_reducible first | refine qif_i (fun _ => ?_) (fun _ => ?_) | refine frcVs_i ?_ | refine frcRs_i ?_)) <;> (conv => whnf))))
  · ((with_reducible refine qCall.of (cS) [(1, 1)] [(0, 0), (2, 2), (3, 3), (4, 4), (5, 5), (6, 6), (7, 7)] [] [(8, 8), (9, 9)] [(1, spO (spR false 8 9 x.acks)), (6, .dead), (7, .dead), (8, .uniq), (9, .uniq)] (.tup []) ?hk ?_); (case hk => rfl); (conv => whnf); (repeat (refine And.intro ?_ ?_; exact sideT; (conv => whnf))); (fail_if_success (with_reducible first | refine And.intro (eqv_i ?_) ?_ | refine And.intro (ren_i ?_) ?_)))
    (refine qConv.of hB [(1, 1)] [(0, 0), (2, 2), (3, 3), (4, 4), (5, 5), (8, 8), (9, 9)] [] (by rfl) ?_; focus ((conv => whnf); (repeat (refine And.intro ?_ ?_; rotate_left; (conv => whnf))); exact trivial; all_goals (try exact andT)))
    all_goals (try exact dt_AhTcpC_ROW)
  · ((with_reducible refine qCall.of (cS) [(1, 1)] [(0, 0), (2, 2), (3, 3), (4, 4), (5, 5), (6, 6), (7, 7)] [] [(8, 8), (9, 9)] [(1, spO (spR true 8 9 x.acks)), (6, .dead), (7, .dead), (8, .uniq), (9, .uniq)] (.tup []) ?hk ?_); (case hk => rfl); (conv => whnf); (repeat (refine And.intro ?_ ?_; exact sideT; (conv => whnf))); (fail_if_success (with_reducible first | refine And.intro (eqv_i ?_) ?_ | refine And.intro (ren_i ?_) ?_)))
    (refine qConv.of hB [(1, 1)] [(0, 0), (2, 2), (3, 3), (4, 4), (5, 5), (8, 8), (9, 9)] [] (by rfl) ?_; focus ((conv => whnf); (repeat (refine And.intro ?_ ?_; rotate_left; (conv => whnf))); exact trivial; all_goals (try exact andT)))
    all_goals (try exact dt_AhTcpC_ROW)
theorem closed_l (g : Bool) (x : Stp) :
    ACallL Try.prog 77 [.ptr 1 0 0] [.perm, spO (spR g 6 7 x), .perm, .perm, .perm, .perm, .perm, .perm]
      (.tup []) [.perm, spO (spR g 6 7 x.shut), .perm, .perm, .perm, .perm, .perm, .perm] := by
  dsimp only [spR, spL]
  cases g
  all_goals
    dsimp only [oL]
    refine ACallL.of_ev mixed Try.func77 rfl (fun a w => Try.call77 a w) (congrArg Array.toList Try.results77) Try.ntmps77 fun B hB => ?_
    ((conv => whnf); (repeat' ((first | (with_reducible first | refine qif_n ?_ | refine qif_t ‹_› ?_ | refine qif_f ‹_› ?_) | ((with_reducible refine qif_t ?_ ?_); focus decide) | ((with_reducible refine qif_f ?_ ?_); focus decide) | (with_reducible refine And.intro (orderOk_i ?ho) ?_; (case ho => kernel_rfl)) | (with_reducible first | refine qif_i (fun _ => ?_) (fun _ => ?_) | refine frcVs_i ?_ | refine frcRs_i ?_)) <;> (conv => whnf))))
    (refine qConv.of hB [(1, 1)] [(0, 0), (2, 2), (3, 3), (4, 4), (5, 5), (6, 6), (7, 7)] [] (by rfl) ?_; focus ((conv => whnf); (repeat (refine And.intro ?_ ?_; rotate_left; (conv => whnf))); exact trivial; all_goals (try exact andT)))
    all_goals (try exact dt_AhTcpC_ROW)
theorem talks_l (g : Bool) (x : Stp) :
    ACallL Try.prog 60 [.ptr 1 0 0] [.perm, spO (spR g 6 7 x), .perm, .perm, .perm, .perm, .perm, .perm]
      (.val (.bool x.c.talks)) [.perm, spO (spR g 6 7 x), .perm, .perm, .perm, .perm, .perm, .perm] := by
  unfold Cn.talks
  dsimp only [spR, spL]
  cases g
  all_goals
    dsimp only [oL]
    refine ACallL.of_ev mixed Try.func60 rfl (fun a w => Try.call60 a w) (congrArg Array.toList Try.results60) Try.ntmps60 fun B hB => ?_
    ((conv => whnf); (repeat' ((first | (with_reducible first | refine qif_n ?_ | refine qif_t ‹_› ?_ | refine qif_f ‹_› ?_) | ((with_reducible refine qif_t ?_ ?_); focus decide) | ((with_reducible refine qif_f ?_ ?_); focus decide) | (with_reducible refine And.intro (orderOk_i ?ho) ?_; (case ho => kernel_rfl)) | (with_reducible first | refine qif_i (fun _ => ?_) (fun _ => ?_) | refine frcVs_i ?_ | refine frcRs_i ?_)) <;> (conv => whnf))))
    all_goals
      (refine qConv.of hB [(1, 1)] [(0, 0), (2, 2), (3, 3), (4, 4), (5, 5), (6, 6), (7, 7)] [] (by rfl) ?_; focus ((conv => whnf); (repeat (refine And.intro ?_ ?_; rotate_left; (conv => whnf))); exact trivial; all_goals (try exact andT)))
      all_goals (try exact dt_AhTcpC_ROW)
    all_goals simp only [*, Bool.true_or, Bool.false_or]
theorem hears_l (x : Stp) :
    ACallL Try.prog 93 [.ptr 1 0 0] [.perm, spO (spR false 6 7 x), .perm, .perm, .perm, .perm, .perm, .perm]
      (.val (.bool x.c.hears)) [.perm, spO (spR false 6 7 x), .perm, .perm, .perm, .perm, .perm, .perm] := by
  unfold Cn.hears
  dsimp only [spR, spL, oL]
  refine ACallL.of_ev mixed Try.func93 rfl (fun a w => Try.call93 a w) (congrArg Array.toList Try.results93) Try.ntmps93 fun B hB => ?_
  ((conv => whnf); (repeat' ((first | (with_reducible first | refine qif_n ?_ | refine qif_t ‹_› ?_ | refine qif_f ‹_› ?_) | ((with_reducible refine qif_t ?_ ?_); focus decide) | ((with_reducible refine qif_f ?_ ?_); focus decide) | (with_reducible refine And.intro (orderOk_i ?ho) ?_; (case ho => kernel_rfl)) | (with_reducible first | refine qif_i (fun _ => ?_) (fun _ => ?_) | refine frcVs_i ?_ | refine frcRs_i ?_)) <;> (conv => whnf))))
  all_goals
    (refine qConv.of hB [(1, 1)] [(0, 0), (2, 2), (3, 3), (4, 4), (5, 5), (6, 6), (7, 7)] [] (by rfl) ?_; focus ((conv => whnf); (repeat (refine And.intro ?_ ?_; rotate_left; (conv => whnf))); exact trivial; all_goals (try exact andT)))
    all_goals (try exact dt_AhTcpC_ROW)
  all_goals simp only [*, Bool.true_or, Bool.false_or]
theorem stepDone_l (x : Stp) :
    ACallL Try.prog 62 [.ptr 1 0 0] [.perm, spO (spR true 6 7 x), .perm, .perm, .perm, .perm, .perm, .perm]
      (.tup [.agg (cnL (gL 2 x.c.out) (.list 3 2 (x.c.parts.map (prg 4))) x.c), .glist 6 7 (x.out.map (sgG 7)), .val (.int .i64 0)]) [.perm, spO (spR true 6 7 x), .perm, .perm, .perm, .perm, .perm, .perm] := by
  dsimp only [spR, spL, oL, cnL]
  refine ACallL.of_ev mixed Try.func62 rfl (fun a w => Try.call62 a w) (congrArg Array.toList Try.results62) Try.ntmps62 fun B hB => ?_
  ((conv => whnf); (repeat' ((first | (with_reducible first | refine qif_n ?_ | refine qif_t ‹_› ?_ | refine qif_f ‹_› ?_) | ((with_reducible refine qif_t ?_ ?_); focus decide) | ((with_reducible refine qif_f ?_ ?_); focus decide) | (with_reducible refine And.intro (orderOk_i ?ho) ?_; (case ho => kernel_rfl)) | (with_reducible first | refine qif_i (fun _ => ?_) (fun _ => ?_) | refine frcVs_i ?_ | refine frcRs_i ?_)) <;> (conv => whnf))))
  (refine qConv.of hB [(1, 1)] [(0, 0), (2, 2), (3, 3), (4, 4), (5, 5), (6, 6), (7, 7)] [] (by rfl) ?_; focus ((conv => whnf); (repeat (refine And.intro ?_ ?_; rotate_left; (conv => whnf))); exact trivial; all_goals (try exact andT)))
  all_goals (try exact dt_AhTcpC_ROW)
theorem tcpOwn_l (c : Cn) (hc : CnLen c) : ACallL Try.prog 52 [.agg (cnR 0 c)] [.perm] (.agg (cnG 1 2 3 c)) [.perm, .uniq, .uniq, .uniq] := by
  obtain ⟨ho, hp⟩ := hc
  dsimp only [cnR, cnL, cnG]
  refine ACallL.of_ev mixed Try.func52 rfl (fun a w => Try.call52 a w) (congrArg Array.toList Try.results52) Try.ntmps52 fun B hB => ?_
  ((conv => whnf); (repeat' ((first | (with_reducible first | refine qif_n ?_ | refine qif_t ‹_› ?_ | refine qif_f ‹_› ?_) | ((with_reducible refine qif_t ?_ ?_); focus decide) | ((with_reducible refine qif_f ?_ ?_); focus decide) | (with_reducible refine And.intro (orderOk_i ?ho) ?_; (case ho => kernel_rfl)) | (with_reducible first | refine qif_i (fun _ => ?_) (fun _ => ?_) | refine frcVs_i ?_ | refine frcRs_i ?_)) <;> (conv => whnf))))
  ((with_reducible refine qCall.fresh (fun r => gL r c.out) (clone_l c.out ho) [(0, 0)] [] ?hk ?_); (case hk => rfl); (conv => whnf); (repeat (refine And.intro ?_ ?_; exact sideT; (conv => whnf))); (fail_if_success (with_reducible first | refine And.intro (eqv_i ?_) ?_ | refine And.intro (ren_i ?_) ?_)))
  ((conv => whnf); (repeat' ((first | (with_reducible first | refine qif_n ?_ | refine qif_t ‹_› ?_ | refine qif_f ‹_› ?_) | ((with_reducible refine qif_t ?_ ?_); focus decide) | ((with_reducible refine qif_f ?_ ?_); focus decide) | (with_reducible refine And.intro (orderOk_i ?ho) ?_; (case ho => kernel_rfl)) | (with_reducible first | refine qif_i (fun _ => ?_) (fun _ => ?_) | refine frcVs_i ?_ | refine frcRs_i ?_)) <;> (conv => whnf))))
  ((with_reducible refine qCall.of (own_l c.inx c.parts hp) [] [(0, 0)] [] [(1, 4), (2, 5)] [(4, .uniq), (5, .uniq)] (.agg [.val (.int .i64 c.inx), .glist 4 2 (c.parts.map (prg 5))]) ?hk ?_); (case hk => rfl); (conv => whnf); (repeat (refine And.intro ?_ ?_; exact sideT; (conv => whnf))); (fail_if_success (with_reducible first | refine And.intro (eqv_i ?_) ?_ | refine And.intro (ren_i ?_) ?_)))
  ((conv => whnf); (repeat' ((first | (with_reducible first | refine qif_n ?_ | refine qif_t ‹_› ?_ | refine qif_f ‹_› ?_) | ((with_reducible refine qif_t ?_ ?_); focus decide) | ((with_reducible refine qif_f ?_ ?_); focus decide) | (with_reducible refine And.intro (orderOk_i ?ho) ?_; (case ho => kernel_rfl)) | (with_reducible first | refine qif_i (fun _ => ?_) (fun _ => ?_) | refine frcVs_i ?_ | refine frcRs_i ?_)) <;> (conv => whnf))))
  (refine qConv.of hB [] [(0, 0), (3, 1), (4, 2), (5, 3)] [] (by rfl) ?_; focus ((conv => whnf); (repeat (refine And.intro ?_ ?_; rotate_left; (conv => whnf))); exact trivial; all_goals (try exact andT)))
  all_goals first | rfl | exact bytes_cells _ | exact parts_gg rfl _
end Go.Proofs.Ytceohcbokbalhaa

/- A connection: plain law of what it sends. Conditions: bounds of numbers. -/
namespace Go.Proofs.Ytceohcbokbalhaa
open Go.RowKit
set_option linter.unusedVariables false
set_option linter.unusedSimpArgs false
structure PumpOk (c : Cn) : Prop where
  una : 0 ≤ c.una ∧ c.una ≤ 4294967295
  nx : 0 ≤ c.nx ∧ c.nx ≤ 4294967295
  s0 : 0 ≤ c.sent
  s1 : c.sent ≤ c.out.length
  len : c.out.length ≤ 8192
  win : 0 ≤ c.win ∧ c.win ≤ 65535
theorem wdiff_add {a b n : Int} (h0 : 0 ≤ wdiff b a) (h1 : 0 ≤ n) (h2 : wdiff b a + n < 1000000) : wdiff (wadd b n) a = wdiff b a + n := by
  unfold wdiff wadd at *; omega
theorem pumpN_le {c : Cn} (h : PumpOk c) : c.pumpN ≤ 536 ∧ c.sent + c.pumpN ≤ c.out.length ∧ c.sent + c.pumpN ≤ 8192 := by
  have := h.len
  unfold Cn.pumpN Cn.len
  omega
theorem pump1_sent {y : Stp} (h : PumpOk y.c) (hn : 0 < y.c.pumpN) : y.pump1.c.sent = y.c.sent + y.c.pumpN := by
  have h1 := h.s0
  have h2 := pumpN_le h
  show wdiff (wadd y.c.nx y.c.pumpN) y.c.una = _
  unfold Cn.sent at *
  exact wdiff_add (by omega) (by omega) (by omega)
theorem pump1_ok {y : Stp} (h : PumpOk y.c) (hn : 0 < y.c.pumpN) : PumpOk y.pump1.c := by
  have h1 := pump1_sent h hn
  have h2 := pumpN_le h
  have h3 := wadd_bd y.c.nx y.c.pumpN
  refine ⟨h.una, ⟨h3.1, by show wadd y.c.nx y.c.pumpN ≤ _; omega⟩, by rw [h1]; have := h.s0; omega, by rw [h1]; exact h2.2.1, h.len, h.win⟩
theorem pumpGo_fuel : ∀ (k k' : Nat) (y : Stp), PumpOk y.c → (y.c.len - y.c.sent).toNat ≤ k → (y.c.len - y.c.sent).toNat ≤ k' → pumpGo k y = pumpGo k' y
  | 0, 0, y, _, _, _ => rfl
  | 0, k' + 1, y, h, h1, _ => by
    have : y.c.pumpN ≤ 0 := by have := h.s1; unfold Cn.pumpN Cn.len at *; omega
    rw [pumpGo, pumpGo, if_pos this]
  | k + 1, 0, y, h, _, h1 => by
    have : y.c.pumpN ≤ 0 := by have := h.s1; unfold Cn.pumpN Cn.len at *; omega
    rw [pumpGo, pumpGo, if_pos this]
  | k + 1, k' + 1, y, h, h1, h2 => by
    rw [pumpGo, pumpGo]
    by_cases hn : y.c.pumpN ≤ 0
    · rw [if_pos hn, if_pos hn]
    · rw [if_neg hn, if_neg hn]
      have h3 := pump1_sent h (by omega)
      have h4 : y.pump1.c.len = y.c.len := rfl
      exact pumpGo_fuel k k' _ (pump1_ok h (by omega)) (by rw [h3, h4]; omega) (by rw [h3, h4]; omega)
theorem pumpGo_step {y : Stp} (h : PumpOk y.c) (hn : 0 < y.c.pumpN) : pumpGo y.c.out.length y = pumpGo y.pump1.c.out.length y.pump1 := by
  have h2 := h.s0
  have h3 := pump1_sent h hn
  have h4 := pumpN_le h
  have h5 : y.pump1.c.out = y.c.out := rfl
  obtain ⟨k, hk⟩ : ∃ k, y.c.out.length = k + 1 := ⟨y.c.out.length - 1, by omega⟩
  have e : pumpGo y.c.out.length y = pumpGo k y.pump1 := by rw [hk, pumpGo, if_neg (by omega)]
  rw [e]
  have h6 : y.pump1.c.len = k + 1 := by show (y.c.out.length : Int) = k + 1; omega
  exact pumpGo_fuel _ _ _ (pump1_ok h hn) (by rw [h3, h6]; omega) (by rw [h3, h6, h5]; omega)
theorem pumpGo_end {y : Stp} (hn : y.c.pumpN ≤ 0) : ∀ k, pumpGo k y = y
  | 0 => rfl
  | k + 1 => by rw [pumpGo, if_pos hn]
theorem ptsMay {n : Int} {ps : List Pt} (h : mayB n ps = true) : PtsOk ps := by
  obtain ⟨_, h8, hin⟩ := mayB_in h
  refine ⟨by omega, fun p hp => ?_⟩
  have := hin p hp
  omega
theorem lead_end {w : Win} (h : w.length = 2048) : lead w ≤ 2048 ∧ isS w (lead w) = false := ⟨by have := lead_le w; omega, lead_no w⟩
theorem reaS_may {n : Int} {ps : List Pt} (h : mayB n ps = true) (s : Int) (xs : List Int) : mayB (reaS n ps s xs).1 (reaS n ps s xs).2.1 = true := by
  unfold reaS
  obtain ⟨W, hW⟩ : ∃ W, winS n ps s xs = W := ⟨_, rfl⟩
  have lW : W.length = 2048 := by rw [← hW, winS_len]
  rw [hW]
  by_cases h8 : 8 < (runsT n W (lead W) 2048).length
  · rw [if_pos h8]; exact h
  · rw [if_neg h8]
    obtain ⟨hl, hs⟩ := lead_end lW
    have hr := (runsT_runs (nx := n) lW _ (lead W) rfl hl).may lW (t := lead W) (Nat.le_refl _) hs
    rw [Int.sub_self] at hr
    simp only [mayB, within_wadd, hr, Bool.true_and, Bool.and_true, decide_eq_true_eq]
    omega
theorem reaS_told (n : Int) (ps : List Pt) (s : Int) (xs : List Int) : (reaS n ps s xs).2.2.length ≤ 2048 := by
  unfold reaS
  split
  · simp
  · have := lead_end (winS_len n ps s xs)
    rw [seg_len (by rw [winS_len]; exact this.1)]
    omega
structure NumI (c : Cn) : Prop where
  z : c.st = 0 → c.out = [] ∧ c.parts = [] ∧ c.tm = tm0
  a : c.st = 1 → c.sent = 1
  b : c.st = 4 ∨ c.st = 8 → c.closing = true ∧ c.sent = 0 ∧ c.out = []
  d : c.st = 3 ∨ c.st = 6 ∨ c.st = 7 → c.closing = true ∧ c.sent = c.out.length + 1
  e : c.st = 2 ∨ c.st = 5 → 0 ≤ c.sent ∧ c.sent ≤ c.out.length
theorem eqTm_iff (a b : Tm) : eqTm a b = true ↔ a = b := by
  obtain ⟨on, left, wait, tries⟩ := a
  obtain ⟨on', left', wait', tries'⟩ := b
  simp only [eqTm, Bool.and_eq_true, beq_iff_eq, Tm.mk.injEq, and_true]
theorem numB_iff {c : Cn} (hs : 0 ≤ c.st ∧ c.st ≤ 8) : numB c = true ↔ NumI c := by
  have cases9 : c.st = 0 ∨ c.st = 1 ∨ c.st = 2 ∨ c.st = 3 ∨ c.st = 4 ∨ c.st = 5 ∨ c.st = 6 ∨ c.st = 7 ∨ c.st = 8 := by omega
  have nil : ∀ {α : Type} (l : List α), ((l.length : Int) = 0) ↔ l = [] := fun l => by rw [← List.length_eq_zero_iff]; omega
  constructor
  · intro h
    refine ⟨fun e => ?_, fun e => ?_, fun e => ?_, fun e => ?_, fun e => ?_⟩
    · simp only [numB, e, beq_self_eq_true, cond_true, Bool.and_eq_true, beq_iff_eq, nil, eqTm_iff] at h
      exact h
    · simp only [numB, e, beq_self_eq_true, cond_true, show ((1 : Int) == 0) = false by decide, cond_false, beq_iff_eq] at h
      exact h
    · rcases e with e | e <;> simp only [numB, e, beq_self_eq_true, cond_true, show ((4 : Int) == 0) = false by decide, show ((4 : Int) == 1) = false by decide, show ((8 : Int) == 0) = false by decide, show ((8 : Int) == 1) = false by decide, show ((8 : Int) == 4) = false by decide, Bool.true_or, Bool.or_true, cond_false, Bool.and_eq_true, beq_iff_eq, nil] at h <;> exact h
    · rcases e with e | e | e <;> simp only [numB, e] at h <;> simpa [Bool.and_eq_true] using h
    · rcases e with e | e <;> simp only [numB, e] at h <;> simpa [Bool.and_eq_true] using h
  · rintro ⟨z, a, b, d, e⟩
    rcases cases9 with h | h | h | h | h | h | h | h | h
    · obtain ⟨h1, h2, h3⟩ := z h; simp only [numB, h, h1, h2, h3]; rfl
    · have := a h; simp only [numB, h, this]; rfl
    · have := e (.inl h); simp only [numB, h]; simpa using this
    · have := d (.inl h); simp only [numB, h]; simpa using this
    · have := b (.inl h); simp only [numB, h]; simpa using this
    · have := e (.inr h); simp only [numB, h]; simpa using this
    · have := d (.inr (.inl h)); simp only [numB, h]; simpa using this
    · have := d (.inr (.inr h)); simp only [numB, h]; simpa using this
    · have := b (.inr h); simp only [numB, h]; simpa using this
structure CnF (c : Cn) : Prop where
  link : 0 ≤ c.link ∧ c.link ≤ 1099511627776
  ip : 0 ≤ c.ip ∧ c.ip ≤ 4294967295
  pp : 0 ≤ c.pp ∧ c.pp ≤ 65535
  port : 0 ≤ c.port ∧ c.port ≤ 65535
  st : 0 ≤ c.st ∧ c.st ≤ 8
  una : 0 ≤ c.una ∧ c.una ≤ 4294967295
  nx : 0 ≤ c.nx ∧ c.nx ≤ 4294967295
  win : 0 ≤ c.win ∧ c.win ≤ 65535
  len : c.out.length ≤ 8192
  may : mayB c.inx c.parts = true
  tm : tmB c.tm = true
structure CnI (c : Cn) : Prop extends CnF c where
  num : NumI c
theorem cnB_iff (c : Cn) : cnB c = true ↔ CnI c := by
  simp only [cnB, within, Bool.and_eq_true, decide_eq_true_eq, Bool.not_eq_true', decide_eq_false_iff_not]
  constructor
  · rintro ⟨h1, h2, h3, h4, h5, h6, h7, h8, h9, h10, h11, h12, h13⟩
    have hs : 0 ≤ c.st ∧ c.st ≤ 8 := by omega
    exact ⟨⟨h1, h2, h3, h4, hs, h7, h8, h9, by omega, h11, h12⟩, (numB_iff hs).1 h13⟩
  · rintro ⟨⟨h1, h2, h3, h4, hs, h7, h8, h9, h10, h11, h12⟩, h13⟩
    exact ⟨h1, h2, h3, h4, by omega, by omega, h7, h8, h9, by omega, h11, h12, (numB_iff hs).2 h13⟩
theorem tm0_ok : tmB tm0 = true := by decide
theorem tm3_ok : tmB (tmNew 3) = true := by decide
theorem tm20_ok : tmB (tmNew 20) = true := by decide
theorem may_nil {n : Int} {ps : List Pt} (h : mayB n ps = true) : mayB n [] = true := by
  have := (mayB_in h).1
  simp only [mayB, mayGo, within, Bool.and_eq_true, decide_eq_true_eq, and_true]
  exact ⟨by omega, by simp⟩
theorem may_next {n : Int} {k : Int} : mayB (wadd n k) [] = true := by
  simp only [mayB, mayGo, within_wadd, Bool.and_true, Bool.true_and, decide_eq_true_eq]
  simp
theorem CnF.shut {c : Cn} (h : CnF c) : CnI c.shut :=
  ⟨⟨h.link, h.ip, h.pp, h.port, ⟨by show (0 : Int) ≤ 0; decide, by show (0 : Int) ≤ 8; decide⟩, h.una, h.nx, h.win, by simp [Cn.shut], may_nil h.may, tm0_ok⟩,
    ⟨fun _ => ⟨rfl, rfl, rfl⟩, fun e => by simp [Cn.shut] at e, fun e => by simp [Cn.shut] at e, fun e => by simp [Cn.shut] at e, fun e => by simp [Cn.shut] at e⟩⟩
theorem CnI.pumpOk {c : Cn} (h : CnI c) (ht : c.talks = true) : PumpOk c := by
  have : c.st = 2 ∨ c.st = 5 := by simpa [Cn.talks] using ht
  obtain ⟨h1, h2⟩ := h.num.e this
  exact ⟨h.una, h.nx, h1, h2, h.len, h.win⟩
theorem ack_sent {a s u : Int} (h0 : 0 ≤ wdiff s u) (h1 : wdiff s u ≤ 8193) (h2 : 0 < wdiff a u) (h3 : wdiff a s ≤ 0) : wdiff s a = wdiff s u - wdiff a u := by
  unfold wdiff at *; omega
theorem ack_I {x : Stp} (h : CnI x.c) {m : Sg} (hm : sgB m = true) (h0 : x.c.st ≠ 0) : CnI (x.ack m).1.c := by
  have hm' : (0 ≤ m.ack ∧ m.ack ≤ 4294967295) ∧ (0 ≤ m.win ∧ m.win ≤ 65535) := by
    simp only [sgB, within, Bool.and_eq_true, decide_eq_true_eq] at hm
    exact ⟨hm.2.2.2.1, hm.2.2.2.2.2.1⟩
  have hst := h.st
  unfold Stp.ack
  cases h1 : (x.c.st == 1) with
  | true =>
    simp only [cond_true]
    cases (m.ack == x.c.nx) with
    | false => exact h
    | true =>
      refine ⟨⟨h.link, h.ip, h.pp, h.port, ⟨by show (0 : Int) ≤ 2; decide, by show (2 : Int) ≤ 8; decide⟩, h.nx, h.nx, hm'.2, h.len, h.may, tm0_ok⟩, ⟨fun e => ?_, fun e => ?_, fun e => ?_, fun e => ?_, fun _ => ?_⟩⟩
      · exact absurd e (by show ¬ (2 : Int) = 0; decide)
      · exact absurd e (by show ¬ (2 : Int) = 1; decide)
      · exact absurd e (by show ¬ ((2 : Int) = 4 ∨ (2 : Int) = 8); decide)
      · exact absurd e (by show ¬ ((2 : Int) = 3 ∨ (2 : Int) = 6 ∨ (2 : Int) = 7); decide)
      · have : wdiff x.c.nx x.c.nx = 0 := by unfold wdiff; omega
        show 0 ≤ wdiff x.c.nx x.c.nx ∧ wdiff x.c.nx x.c.nx ≤ x.c.out.length
        omega
  | false =>
    simp only [cond_false]
    have h1 : x.c.st ≠ 1 := by simpa using h1
    cases h2 : decide (0 < wdiff m.ack x.c.nx) with
    | true => exact h
    | false =>
      simp only [cond_false]
      have h2 : wdiff m.ack x.c.nx ≤ 0 := by simpa using h2
      cases h3 : decide (wdiff m.ack x.c.una ≤ 0) with
      | true => exact ⟨⟨h.link, h.ip, h.pp, h.port, h.st, h.una, h.nx, hm'.2, h.len, h.may, h.tm⟩, ⟨h.num.z, h.num.a, h.num.b, h.num.d, h.num.e⟩⟩
      | false =>
        simp only [cond_false]
        have h3 : 0 < wdiff m.ack x.c.una := by simpa using h3
        have hlen := h.len
        have hs : (x.c.st = 2 ∨ x.c.st = 5) ∧ 0 ≤ x.c.sent ∧ x.c.sent ≤ x.c.out.length ∨ (x.c.st = 3 ∨ x.c.st = 6 ∨ x.c.st = 7) ∧ x.c.closing = true ∧ x.c.sent = x.c.out.length + 1 ∨ (x.c.st = 4 ∨ x.c.st = 8) ∧ x.c.sent = 0 := by
          have : (x.c.st = 2 ∨ x.c.st = 5) ∨ (x.c.st = 3 ∨ x.c.st = 6 ∨ x.c.st = 7) ∨ (x.c.st = 4 ∨ x.c.st = 8) := by omega
          rcases this with e | e | e
          · exact .inl ⟨e, h.num.e e⟩
          · exact .inr (.inl ⟨e, h.num.d e⟩)
          · exact .inr (.inr ⟨e, (h.num.b e).2.1⟩)
        have hsd : 0 ≤ wdiff x.c.nx x.c.una ∧ wdiff x.c.nx x.c.una ≤ 8193 := by unfold Cn.sent at hs; omega
        have hk := ack_sent hsd.1 hsd.2 h3 h2
        have hw := wdiff_bd x.c.nx m.ack
        have hd : wdiff m.ack x.c.una ≤ wdiff x.c.nx x.c.una := by unfold wdiff at *; omega
        have hF : CnF (x.c.ackC m) := ⟨h.link, h.ip, h.pp, h.port, h.st, hm'.1, h.nx, hm'.2, by show (x.c.out.drop _).length ≤ _; simp; omega, h.may, tm0_ok⟩
        have hl : ((x.c.ackC m).out.length : Int) = x.c.out.length - min (wdiff m.ack x.c.una) x.c.out.length := by
          show ((x.c.out.drop _).length : Int) = _
          simp; omega
        have hsn : (x.c.ackC m).sent = wdiff x.c.nx x.c.una - wdiff m.ack x.c.una := hk
        unfold Cn.sent at hs
        cases h4 : (finOut x.c.st && (wdiff x.c.nx m.ack == 0)) with
        | false =>
          simp only [cond_false]
          simp only [Bool.and_eq_false_iff, finOut, decide_eq_false_iff_not, beq_eq_false_iff_ne] at h4
          refine ⟨hF, ⟨fun e => absurd e h0, fun e => absurd e h1, fun e => ?_, fun e => ?_, fun e => ?_⟩⟩
          · have e : x.c.st = 4 ∨ x.c.st = 8 := e
            omega
          · have e : x.c.st = 3 ∨ x.c.st = 6 ∨ x.c.st = 7 := e
            rcases hs with ⟨hs1, _⟩ | ⟨_, hs2, hs3⟩ | ⟨hs1, _⟩
            · omega
            · exact ⟨hs2, by rw [hsn, hl]; omega⟩
            · omega
          · have e : x.c.st = 2 ∨ x.c.st = 5 := e
            rw [hsn, hl]
            rcases hs with ⟨_, hs2, hs3⟩ | ⟨hs1, _⟩ | ⟨hs1, _⟩ <;> omega
        | true =>
          simp only [cond_true]
          simp only [Bool.and_eq_true, finOut, decide_eq_true_eq, beq_iff_eq] at h4
          obtain ⟨h4, h5⟩ := h4
          obtain ⟨hs1, hs2, hs3⟩ : (x.c.st = 3 ∨ x.c.st = 6 ∨ x.c.st = 7) ∧ x.c.closing = true ∧ wdiff x.c.nx x.c.una = x.c.out.length + 1 := by
            rcases hs with ⟨hs1, _⟩ | hs | ⟨hs1, hs2⟩
            · omega
            · exact hs
            · omega
          have hnil : (x.c.ackC m).out = [] := by rw [← List.length_eq_zero_iff]; omega
          cases h6 : (x.c.st == 3) with
          | true =>
            refine ⟨⟨hF.link, hF.ip, hF.pp, hF.port, ⟨by show (0 : Int) ≤ 4; decide, by show (4 : Int) ≤ 8; decide⟩, hF.una, hF.nx, hF.win, hF.len, hF.may, hF.tm⟩, ⟨fun e => ?_, fun e => ?_, fun _ => ⟨hs2, h5, hnil⟩, fun e => ?_, fun e => ?_⟩⟩
            · exact absurd e (by show ¬ (4 : Int) = 0; decide)
            · exact absurd e (by show ¬ (4 : Int) = 1; decide)
            · exact absurd e (by show ¬ ((4 : Int) = 3 ∨ (4 : Int) = 6 ∨ (4 : Int) = 7); decide)
            · exact absurd e (by show ¬ ((4 : Int) = 2 ∨ (4 : Int) = 5); decide)
          | false =>
            simp only [cond_false]
            cases h7 : (x.c.st == 6) with
            | true =>
              refine ⟨⟨hF.link, hF.ip, hF.pp, hF.port, ⟨by show (0 : Int) ≤ 8; decide, by show (8 : Int) ≤ 8; decide⟩, hF.una, hF.nx, hF.win, hF.len, hF.may, tm20_ok⟩, ⟨fun e => ?_, fun e => ?_, fun _ => ⟨hs2, h5, hnil⟩, fun e => ?_, fun e => ?_⟩⟩
              · exact absurd e (by show ¬ (8 : Int) = 0; decide)
              · exact absurd e (by show ¬ (8 : Int) = 1; decide)
              · exact absurd e (by show ¬ ((8 : Int) = 3 ∨ (8 : Int) = 6 ∨ (8 : Int) = 7); decide)
              · exact absurd e (by show ¬ ((8 : Int) = 2 ∨ (8 : Int) = 5); decide)
            | false =>
              simp only [cond_false]
              cases h8 : (x.c.st == 7) with
              | true => exact hF.shut
              | false => simp only [beq_eq_false_iff_ne] at h6 h7 h8; omega
end Go.Proofs.Ytceohcbokbalhaa

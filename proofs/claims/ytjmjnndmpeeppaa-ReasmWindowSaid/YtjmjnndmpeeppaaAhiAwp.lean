/- Code on data: contracts of functions, what is asked ahead of code; sound against the walk's own. No condition. -/
import Derived.Test.YtjmjnndmpeeppaaAhiWp
import Derived.ScopeJumps
namespace Go.Proofs.Ytjmjnndmpeeppaa
open Go.RowKit
set_option linter.unusedVariables false
set_option linter.unusedSimpArgs false

def RL (m : Nm) (h : Hp) (w : World) (cs : List AV) (vs : Array Value) : Prop := cs.length = vs.size ∧ ∀ (i : Nat) (c : AV) (v : Value), cs[i]? = some c → vs[i]? = some v → R m h w c v

/-- a function with a body is entered -/
def Callable (P : Program) (f : FuncId) : Prop := ∀ args w, (callFunc f args).run P w = .ok (.enter f args) w

/-- A call's contract on data: whatever the names are beside those that it asks of. -/
def ACall (P : Program) (f : FuncId) (args : List AV) (rd T : List (Nat × Own)) (res : AV) : Prop :=
  Callable P f ∧ ∀ (h : Hp) (m : Nm) (w : World) (vs : Array Value), (∀ p ∈ rd, h p.1 = p.2) → Rel m h w → RL m h w args vs →
    Calls P f vs w fun e w' => ∃ v m', e = .returned v ∧ Rel m' (h.upds T) w' ∧ Ev m h w m' (h.upds T) w' ∧ R m' (h.upds T) w' res v

/-- which function is called, and with what -/
@[go_sem] def callOf (sl : List AV) (o : Oper) : Option (FuncId × List AV) :=
  match o.op with
  | .call c => match c.callee with
    | .value (.func f) => some (f, c.args.toList.map (ae sl))
    | .value (.tmp t) => match sl.getD t (.val undef) with
      | .clo f caps => some (f, c.args.toList.map (ae sl) ++ caps)
      | _ => none
    | _ => none
  | _ => none

section
variable {P : Program}

theorem callOf_ok {o : Oper} {sl : List AV} {f : FuncId} {args : List AV} (hc : callOf sl o = some (f, args)) {rd T : List (Nat × Own)} {res : AV} (H : ACall P f args rd T res) : OpW P o sl rd T res := by
  intro h m w a K Q hrd rel hop hK
  unfold callOf at hc
  split at hc
  case h_2 => cases hc
  rename_i c ho
  have fin : ∀ vs, (execOp a.eval o).run P w = .ok (.enter f vs) w → RL m h w args vs → o.wp P a w K Q := by
    intro vs hrun hl
    unfold Oper.wp
    rw [hrun]
    refine (H.2 h m w vs hrd rel hl).mono ?_
    rintro e w' ⟨v, m', rfl, h1, h2, h3⟩
    exact hK v m' w' h1 h2 h3
  have hcall : ∀ args w, (callFunc f args).run P w = .ok (.enter f args) w := H.1
  have margs : ∀ (x : Operand), x ∈ c.args.toList → R m h w (ae sl x) (a.eval x) := fun x hx => hop x (by simp only [ho, Op.operands, Call.operands]; simp; exact .inr (by simpa using hx))
  split at hc
  · rename_i f' hf
    cases hc
    refine fin (c.args.map a.eval) ?_ ⟨by simp, fun i cc v h1 h2 => ?_⟩
    · simp [execOp, ho, resolve, hf, Act.eval, Deferred.ofValue, invoke, hcall]
    · simp only [List.getElem?_map, Option.map_eq_some_iff, Array.getElem?_map] at h1 h2
      obtain ⟨x, hx, rfl⟩ := h1
      obtain ⟨y, hy, rfl⟩ := h2
      have hx' : c.args[i]? = some x := by simpa using hx
      rw [hx'] at hy
      cases hy
      exact margs x (List.mem_of_getElem? hx)
  · rename_i t hf
    split at hc
    · rename_i f' caps hclo
      cases hc
      have hR : R m h w (.clo f caps) (a.eval (.tmp t)) := by
        have := hop (.tmp t) (by simp only [ho, Op.operands, Call.operands, hf]; simp)
        simp only [ae, hclo] at this
        exact this
      generalize hev : a.eval (.tmp t) = v at hR
      cases hR with
      | clo _ _ vs hl hcc =>
        refine fin (c.args.map a.eval ++ vs) ?_ ⟨by simp [hl], fun i cc v h1 h2 => ?_⟩
        · simp [execOp, ho, resolve, hf, hev, Deferred.ofValue, invoke, hcall]
        · by_cases hi : i < c.args.toList.length
          · rw [List.getElem?_append_left (by simpa using hi)] at h1
            rw [Array.getElem?_append_left (by simpa using hi)] at h2
            simp only [List.getElem?_map, Option.map_eq_some_iff, Array.getElem?_map] at h1 h2
            obtain ⟨x, hx, rfl⟩ := h1
            obtain ⟨y, hy, rfl⟩ := h2
            have hx' : c.args[i]? = some x := by simpa using hx
            rw [hx'] at hy
            cases hy
            exact margs x (List.mem_of_getElem? hx)
          · rw [List.getElem?_append_right (by simpa using hi)] at h1
            rw [Array.getElem?_append_right (by simpa using hi)] at h2
            simp only [List.length_map, Array.size_map, Array.length_toList] at h1 h2
            exact hcc _ cc v h1 h2
    · cases hc
  · cases hc

/-- a mark that the walk takes off: so that it looks at the marked thing first, and not at what comes behind it -/
noncomputable def hold {α : Type} (x : α) : α := (Classical.choice (⟨⟨x, rfl⟩⟩ : Nonempty { y : α // y = x })).1
@[go_sem] theorem hold_eq {α : Type} (x : α) : hold x = x := (Classical.choice (⟨⟨x, rfl⟩⟩ : Nonempty { y : α // y = x })).2

/-- two ways -/
def aif (b : Bool) (A B : Prop) : Prop := (b = true → A) ∧ (b = false → B)
@[go_sem] theorem aif_true (A B : Prop) : aif true A B = A := by simp [aif]
@[go_sem] theorem aif_false (A B : Prop) : aif false A B = B := by simp [aif]
@[congr] theorem aif_congr {b b' : Bool} (h : b = b') (A B : Prop) : aif b A B = aif b' A B := by rw [h]
theorem aif_i {b : Bool} {A B : Prop} (h1 : b = true → A) (h2 : b = false → B) : aif b A B := ⟨h1, h2⟩

/-- what is asked of an answer that there must be -/
def onSome {α : Type} (x : Option α) (K : α → Prop) : Prop := match x with | some a => K a | none => False
@[go_sem] theorem onSome_some {α : Type} (a : α) (K : α → Prop) : onSome (some a) K = K a := rfl
@[go_sem] theorem onSome_none {α : Type} (K : α → Prop) : onSome none K = False := rfl
@[congr] theorem onSome_congr {α : Type} {x x' : Option α} (h : x = x') (K : α → Prop) : onSome x K = onSome x' K := by rw [h]
def onCase {α : Type} (x : Option α) (K : α → Prop) (N : Prop) : Prop := match x with | some a => K a | none => N
@[go_sem] theorem onCase_some {α : Type} (a : α) (K : α → Prop) (N : Prop) : onCase (some a) K N = K a := rfl
@[go_sem] theorem onCase_none {α : Type} (K : α → Prop) (N : Prop) : onCase none K N = N := rfl
@[congr] theorem onCase_congr {α : Type} {x x' : Option α} (h : x = x') (K : α → Prop) (N : Prop) : onCase x K N = onCase x' K N := by rw [h]
/-- two ways by a value -/
def onBool (x : AV) (A B : Prop) : Prop := match x with | .val (.bool b) => aif b A B | _ => False
@[go_sem] theorem onBool_bool (b : Bool) (A B : Prop) : onBool (.val (.bool b)) A B = aif (hold b) A B := by rw [hold_eq]; rfl
@[congr] theorem onBool_congr {x x' : AV} (h : x = x') (A B : Prop) : onBool x A B = onBool x' A B := by rw [h]

/-- a call, by whatever contract -/
def ACallAt (P : Program) (f : FuncId) (args : List AV) (h : List Own) (K : AV → List Nat → List Nat → List Own → Prop) : Prop :=
  ∃ rd T res, ACall P f args rd T res ∧ Fits h ⟨res, rd, T⟩ ∧ K res (rd.map (·.1)) (T.map (·.1)) (apT h T)
@[congr] theorem ACallAt_congr {P : Program} {f : FuncId} {args args' : List AV} {h h' : List Own} (h1 : args = args') (h2 : h = h') (K : AV → List Nat → List Nat → List Own → Prop) : ACallAt P f args h K = ACallAt P f args' h' K := by rw [h1, h2]

/-- an operation by whatever contract of its own -/
def AOpen (P : Program) (o : Oper) (sl : List AV) (h : List Own) (K : AV → List Nat → List Nat → List Own → Prop) : Prop :=
  ∃ rd T res, OpW P o sl rd T res ∧ Fits h ⟨res, rd, T⟩ ∧ K res (rd.map (·.1)) (T.map (·.1)) (apT h T)

def aoper (P : Program) (o : Oper) (sl : List AV) (h : List Own) (K : AV → List Nat → List Nat → List Own → Prop) : Prop :=
  onCase (hold (callOf sl o)) (fun fa => ACallAt P fa.1 (hold fa.2) h K) (onCase (hold (aop P o sl h)) (fun r => K r.av (r.rd.map (·.1)) (r.T.map (·.1)) (apT h r.T)) (AOpen P o sl h K))

def awpOps (P : Program) (all : List Oper) (K : List (List Nat × List Nat) → ASt → Prop) : List Oper → List (List Nat × List Nat) → List AV → List Own → Prop
  | [], acc, sl, h => K acc.reverse ⟨sl, h⟩
  | o :: rest, acc, sl, h => onSome (hold (awanted all o sl)) fun b =>
      aif (hold b) (aoper P o sl h fun av rd wr h' => awpOps P all K rest ((rd, wr) :: acc) (aput sl o.dst av) h') (awpOps P all K rest (([], []) :: acc) (aput sl o.dst (.val undef)) h)
@[go_sem ↓] theorem awpOps_nil (P all K acc sl h) : awpOps P all K [] acc sl h = K acc.reverse ⟨sl, h⟩ := rfl
@[go_sem ↓] theorem awpOps_cons (P all K o rest acc sl h) : awpOps P all K (o :: rest) acc sl h = onSome (hold (awanted all o sl)) fun b =>
      aif (hold b) (aoper P o sl h fun av rd wr h' => awpOps P all K rest ((rd, wr) :: acc) (aput sl o.dst av) h') (awpOps P all K rest (([], []) :: acc) (aput sl o.dst (.val undef)) h) := rfl
@[go_sem ↓] theorem aoper_eq (P o sl h K) : aoper P o sl h K = onCase (hold (callOf sl o)) (fun fa => ACallAt P fa.1 (hold fa.2) h K) (onCase (hold (aop P o sl h)) (fun r => K r.av (r.rd.map (·.1)) (r.T.map (·.1)) (apT h r.T)) (AOpen P o sl h K)) := rfl
@[congr] theorem awpOps_congr {P all K ops acc} {sl sl' : List AV} {h h' : List Own} (h1 : sl = sl') (h2 : h = h') : awpOps P all K ops acc sl h = awpOps P all K ops acc sl' h' := by rw [h1, h2]
@[congr] theorem aoper_congr {P o K} {sl sl' : List AV} {h h' : List Own} (h1 : sl = sl') (h2 : h = h') : aoper P o sl h K = aoper P o sl' h' K := by rw [h1, h2]

inductive AExit where
  | normal
  | exit (id : Nat)
  | goto (l : Nat)
  | ret

@[go_sem] def AExit.conc : AExit → Exit
  | .normal => .normal
  | .exit id => .exit id
  | .goto l => .goto l
  | .ret => .ret

/-- where a function's run began -/
structure Base where
  m : Nm
  h : Hp
  w : World
  rel : Rel m h w

/-- what has come of the base -/
def Base.ev (B : Base) (m : Nm) (h : Hp) (w : World) : Prop := Ev B.m B.h B.w m h w

/-- the code meets the post from every world in which the state reads as said -/
def AW (P : Program) (B : Base) (c : Code) (Q : AExit → ASt → Prop) (st : ASt) : Prop :=
  ∀ (m : Nm) (w : World) (a : Act), StR m st.sl (ofL st.h) a w → B.ev m (ofL st.h) w → c.wp P (fun e a' w' => ∃ e' st' m', e = e'.conc ∧ Q e' st' ∧ StR m' st'.sl (ofL st'.h) a' w' ∧ B.ev m' (ofL st'.h) w') a w

def aThen (next : ASt → Prop) (Q : AExit → ASt → Prop) : AExit → ASt → Prop
  | .normal, st => next st
  | e, st => Q e st
def aBlock (id : Nat) (Q : AExit → ASt → Prop) : AExit → ASt → Prop
  | .exit id', st => if id' = id then Q .normal st else Q (.exit id') st
  | e, st => Q e st

@[go_sem ↓] theorem aThen_normal (n Q st) : aThen n Q .normal st = n st := rfl
@[go_sem ↓] theorem aThen_exit (n Q st id) : aThen n Q (.exit id) st = Q (.exit id) st := rfl
@[go_sem ↓] theorem aThen_goto (n Q st id) : aThen n Q (.goto id) st = Q (.goto id) st := rfl
@[go_sem ↓] theorem aThen_ret (n Q st) : aThen n Q .ret st = Q .ret st := rfl
@[go_sem ↓] theorem aBlock_normal (id Q st) : aBlock id Q .normal st = Q .normal st := rfl
@[go_sem ↓] theorem aBlock_exit (id Q st id') : aBlock id Q (.exit id') st = if id' = id then Q .normal st else Q (.exit id') st := rfl
@[go_sem ↓] theorem aBlock_goto (id Q st l) : aBlock id Q (.goto l) st = Q (.goto l) st := rfl
@[go_sem ↓] theorem aBlock_ret (id Q st) : aBlock id Q .ret st = Q .ret st := rfl

/-- what is asked ahead of code -/
def awp (P : Program) (B : Base) : Code → (AExit → ASt → Prop) → List AV → List Own → Prop
  | .skip, Q, sl, h => Q .normal ⟨sl, h⟩
  | .label _, Q, sl, h => Q .normal ⟨sl, h⟩
  | .region _ ops draw, Q, sl, h => awpOps P ops.toList (fun ids st' => (draw = true → orderOk ops.toList ids = true) ∧ Q .normal st') ops.toList [] sl h
  | .seq a b, Q, sl, h => awp P B a (aThen (fun st => awp P B b Q st.sl st.h) Q) sl h
  | .cond c x y, Q, sl, h => onBool (hold (ae sl c)) (awp P B x Q sl h) (awp P B y Q sl h)
  | .block id body, Q, sl, h => awp P B body (aBlock id Q) sl h
  | .loop body, Q, sl, h => AW P B (.loop body) Q ⟨sl, h⟩
  | .exit id, Q, sl, h => Q (.exit id) ⟨sl, h⟩
  | .scope body, Q, sl, h => AW P B (.scope body) Q ⟨sl, h⟩
  | .goto l, Q, sl, h => Q (.goto l) ⟨sl, h⟩
  | .ret, Q, sl, h => Q .ret ⟨sl, h⟩
  | .rangeFunc .., _, _, _ => False
  | .refuse _, _, _, _ => False
@[congr] theorem awp_congr {P B c Q} {sl sl' : List AV} {h h' : List Own} (h1 : sl = sl') (h2 : h = h') : awp P B c Q sl h = awp P B c Q sl' h' := by rw [h1, h2]
@[go_sem ↓] theorem awp_skip (P B Q sl h) : awp P B .skip Q sl h = Q .normal ⟨sl, h⟩ := rfl
@[go_sem ↓] theorem awp_label (P B Q sl h l) : awp P B (.label l) Q sl h = Q .normal ⟨sl, h⟩ := rfl
@[go_sem ↓] theorem awp_region (P B Q sl h id) (ops : List Oper) : awp P B (.region id ops.toArray false) Q sl h = awpOps P ops (fun ids st' => Q .normal st') ops [] sl h := by simp [awp]
@[go_sem ↓] theorem awp_region_draw (P B Q sl h id) (ops : List Oper) : awp P B (.region id ops.toArray true) Q sl h = awpOps P ops (fun ids st' => orderOk ops ids = true ∧ Q .normal st') ops [] sl h := by simp [awp]
@[go_sem ↓] theorem awp_seq (P B Q sl h a b) : awp P B (.seq a b) Q sl h = awp P B a (aThen (fun st => awp P B b Q st.sl st.h) Q) sl h := rfl
@[go_sem ↓] theorem awp_cond (P B Q sl h c x y) : awp P B (.cond c x y) Q sl h = onBool (hold (ae sl c)) (awp P B x Q sl h) (awp P B y Q sl h) := rfl
@[go_sem ↓] theorem awp_block (P B Q sl h id body) : awp P B (.block id body) Q sl h = awp P B body (aBlock id Q) sl h := rfl
def AWm (P : Program) (B : Base) (c : Code) (Q : AExit → ASt → Prop) (sl : List AV) (h : List Own) : Prop := AW P B c Q ⟨sl, h⟩
@[congr] theorem AWm_congr {P B c Q} {sl sl' : List AV} {h h' : List Own} (h1 : sl = sl') (h2 : h = h') : AWm P B c Q sl h = AWm P B c Q sl' h' := by rw [h1, h2]
@[go_sem ↓] theorem awp_loop (P B Q sl h body) : awp P B (.loop body) Q sl h = AWm P B (.loop body) Q (hold sl) h := by rw [hold_eq]; rfl
@[go_sem ↓] theorem awp_scope (P B Q sl h body) : awp P B (.scope body) Q sl h = AWm P B (.scope body) Q (hold sl) h := by rw [hold_eq]; rfl
@[go_sem ↓] theorem awp_exit (P B Q sl h id) : awp P B (.exit id) Q sl h = Q (.exit id) ⟨sl, h⟩ := rfl
@[go_sem ↓] theorem awp_goto (P B Q sl h l) : awp P B (.goto l) Q sl h = Q (.goto l) ⟨sl, h⟩ := rfl
@[go_sem ↓] theorem awp_ret (P B Q sl h) : awp P B .ret Q sl h = Q .ret ⟨sl, h⟩ := rfl

/-- a region's plan out of what is asked ahead of it -/
theorem awpOps_plan {all : List Oper} {K : List (List Nat × List Nat) → ASt → Prop} : ∀ (rest : List Oper) (acc : List (List Nat × List Nat)) (sl : List AV) (h : List Own), awpOps P all K rest acc sl h →
    ∃ (ps : List PStep) (st' : ASt), Plan P all rest sl (ofL h) ps st'.sl (ofL st'.h) ∧ K (acc.reverse ++ ps.map fun p => (p.rids, p.wids)) st'
  | [], acc, sl, hp, h => ⟨[], ⟨sl, hp⟩, .nil _ _, by simpa [awpOps] using h⟩
  | o :: rest, acc, sl, hp, h => by
    rw [awpOps_cons] at h
    simp only [hold_eq] at h
    cases hw : awanted all o sl with
    | none => rw [hw] at h; exact h.elim
    | some b =>
    rw [hw, onSome_some] at h
    cases b with
    | false =>
      rw [aif_false] at h
      obtain ⟨ps, st', h1, h2⟩ := awpOps_plan rest _ _ _ h
      refine ⟨⟨false, .val undef, [], []⟩ :: ps, st', .cons o rest _ _ _ ps _ _ hw (by simp) h1, ?_⟩
      simpa [PStep.rids, PStep.wids] using h2
    | true =>
      rw [aif_true] at h
      have fin : ∀ (av : AV) (rd T : List (Nat × Own)), OpW P o sl rd T av → Fits hp ⟨av, rd, T⟩ → awpOps P all K rest ((rd.map (·.1), T.map (·.1)) :: acc) (aput sl o.dst av) (apT hp T) →
          ∃ (ps : List PStep) (st' : ASt), Plan P all (o :: rest) sl (ofL hp) ps st'.sl (ofL st'.h) ∧ K (acc.reverse ++ ps.map fun p => (p.rids, p.wids)) st' := by
        intro av rd T how hf hrest
        obtain ⟨ps, st', h1, h2⟩ := awpOps_plan rest _ _ _ hrest
        refine ⟨⟨true, av, rd, T⟩ :: ps, st', .cons o rest _ _ ⟨true, av, rd, T⟩ ps _ _ hw (fun _ => ⟨how, hf.1⟩) ?_, ?_⟩
        · simp only [PStep.val, if_true]
          rw [← ofL_apT hf.2]
          exact h1
        · simpa [PStep.rids, PStep.wids] using h2
      rw [aoper_eq] at h
      simp only [hold_eq] at h
      cases hc : callOf sl o with
      | some fa =>
        rw [hc, onCase_some] at h
        obtain ⟨rd, T, res, h1, h2, h3⟩ := h
        exact fin res rd T (callOf_ok (f := fa.1) (args := fa.2) hc h1) h2 h3
      | none =>
        rw [hc, onCase_none] at h
        cases hr : aop P o sl hp with
        | none =>
          rw [hr] at h
          obtain ⟨rd, T, res, h1, h2, h3⟩ := h
          exact fin res rd T h1 h2 h3
        | some r =>
          rw [hr, onCase_some] at h
          obtain ⟨h1, h2⟩ := aop_ok hr
          exact fin r.av r.rd r.T h1.w h2 h

theorem AW.mono {B : Base} {c : Code} {Q Q' : AExit → ASt → Prop} {st : ASt} (h : AW P B c Q st) (hq : ∀ e st', Q e st' → Q' e st') : AW P B c Q' st := fun m w a hs hev =>
  wp_mono (h m w a hs hev) fun e a' w' ⟨e', st', m', h1, h2, h3⟩ => ⟨e', st', m', h1, hq _ _ h2, h3⟩

theorem awp_sound (hm : P.follows .mixedOrders = true) {B : Base} : ∀ (c : Code) (Q : AExit → ASt → Prop) (st : ASt), awp P B c Q st.sl st.h → AW P B c Q st := by
  intro c
  induction c with
  | skip => intro Q st h m w a hs hev; exact wp_skip ⟨.normal, st, m, rfl, h, hs, hev⟩
  | label l => intro Q st h m w a hs hev; exact wp_label ⟨.normal, st, m, rfl, h, hs, hev⟩
  | exit id => intro Q st h m w a hs hev; exact wp_exit ⟨.exit id, st, m, rfl, h, hs, hev⟩
  | goto l => intro Q st h m w a hs hev; exact wp_goto ⟨.goto l, st, m, rfl, h, hs, hev⟩
  | ret => intro Q st h m w a hs hev; exact wp_ret ⟨.ret, st, m, rfl, h, hs, hev⟩
  | loop body ih => intro Q st h; exact h
  | scope body ih => intro Q st h; exact h
  | rangeFunc f ps as body ih1 ih2 => intro Q st h; exact h.elim
  | refuse why => intro Q st h; exact h.elim
  | block id body ih =>
    intro Q st h m w a hs hev
    refine wp_block (wp_mono (ih _ st h m w a hs hev) ?_)
    rintro e a' w' ⟨e', st', m', rfl, hq, hs', ev⟩
    cases e' with
    | normal => exact ⟨.normal, st', m', rfl, hq, hs', ev⟩
    | exit id' =>
      simp only [aBlock_exit] at hq
      simp only [AExit.conc, Exit.inBlock]
      split
      · rename_i e; rw [if_pos e] at hq; exact ⟨.normal, st', m', rfl, hq, hs', ev⟩
      · rename_i e; rw [if_neg e] at hq; exact ⟨.exit id', st', m', rfl, hq, hs', ev⟩
    | goto l => exact ⟨.goto l, st', m', rfl, hq, hs', ev⟩
    | ret => exact ⟨.ret, st', m', rfl, hq, hs', ev⟩
  | cond c x y ihx ihy =>
    intro Q st h m w a hs hev
    unfold awp at h
    rw [hold_eq] at h
    unfold onBool at h
    split at h
    · rename_i b hb
      have hR := hs.slots.eval c
      rw [hb] at hR
      have hv := hR.val_inv
      cases b with
      | true => rw [aif_true] at h; exact wp_cond_true hv (ihx Q st h m w a hs hev)
      | false => rw [aif_false] at h; exact wp_cond_false hv (ihy Q st h m w a hs hev)
    · exact h.elim
  | seq x y ihx ihy =>
    intro Q st h m w a hs hev
    refine wp_seq (wp_mono (ihx _ st h m w a hs hev) ?_)
    rintro e a' w' ⟨e', st', m', rfl, hq, hs', ev⟩
    cases e' with
    | normal =>
      simp only [aThen_normal] at hq
      exact ihy Q st' hq m' w' a' hs' ev
    | exit id => exact ⟨.exit id, st', m', rfl, hq, hs', ev⟩
    | goto l => exact ⟨.goto l, st', m', rfl, hq, hs', ev⟩
    | ret => exact ⟨.ret, st', m', rfl, hq, hs', ev⟩
  | region id ops draw =>
    intro Q st h m w a hs hev
    unfold awp at h
    obtain ⟨ps, st', hp, hk⟩ := awpOps_plan _ _ _ _ h
    simp only [List.reverse_nil, List.nil_append] at hk
    obtain ⟨hord, hq⟩ := hk
    have hops : ops = ops.toList.toArray := by simp
    cases draw with
    | false =>
      refine wp_region ?_
      have := Plan.lex (Q := fun e a' w' => ∃ e' st' m', e = AExit.conc e' ∧ Q e' st' ∧ StR m' st'.sl (ofL st'.h) a' w' ∧ B.ev m' (ofL st'.h) w') B.rel ops.toList 0 st.sl (ofL st.h) ps rfl hp m a w hs hev
        (fun m' a' w' s1 e1 => ⟨.normal, st', m', rfl, hq, s1, e1⟩)
      simpa [List.range_eq_range'] using this
    | true =>
      refine wp_region_any hm ?_
      have := Plan.any (Q := fun e a' w' => ∃ e' st' m', e = AExit.conc e' ∧ Q e' st' ∧ StR m' st'.sl (ofL st'.h) a' w' ∧ B.ev m' (ofL st'.h) w') hp (hord rfl) hs.rel hs
        (fun m' a' w' s1 e1 => ⟨.normal, st', m', rfl, hq, s1, Ev.trans B.rel hev e1⟩) (wd := { w with drawn := w.drawn + 1 }) rfl rfl rfl rfl
      simpa using this
end
end Go.Proofs.Ytjmjnndmpeeppaa

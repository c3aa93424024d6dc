/- What is asked ahead of code, so spelled that the kernel's own reckoning brings it to its open questions. No condition. -/
import Derived.Test.YtjmjnndmpeeppaaAhiCallAt
namespace Go.Proofs.Ytjmjnndmpeeppaa
open Go.RowKit
set_option linter.unusedVariables false
set_option linter.unusedSimpArgs false

/-- a list, spelled out ahead of what follows -/
def frcL {α : Type} : List α → (List α → Prop) → Prop
  | [], K => K []
  | x :: xs, K => frcL xs fun ys => K (x :: ys)
theorem frcL_eq {α : Type} : ∀ (l : List α) (K : List α → Prop), frcL l K = K l
  | [], K => rfl
  | x :: xs, K => frcL_eq xs _
def frcT : List Nat := [0, 1, 2, 3, 4, 5, 6, 7, 8, 9, 10, 11, 12, 13, 14, 15, 16, 17, 18, 19, 20, 21, 22, 23, 24, 25, 26, 27, 28, 29, 30, 31, 32, 33, 34, 35, 36, 37, 38, 39, 40, 41, 42, 43, 44, 45, 46, 47]
def frcE (n : Nat) (K : Nat → Prop) : Prop := match n with | 0 => K 0 | m + 1 => K (m + 1)
theorem frcE_eq (n : Nat) (K : Nat → Prop) : frcE n K = K n := by cases n <;> rfl
def frcN' (n : Nat) (K : Nat → Prop) : List Nat → Prop
  | [] => frcE n K
  | x :: xs => match decEq n x with
    | .isTrue _ => K x
    | .isFalse _ => frcN' n K xs
/-- a number, spelled out -/
def frcN (n : Nat) (K : Nat → Prop) : Prop := frcN' n K frcT
theorem frcN_eq (n : Nat) (K : Nat → Prop) : frcN n K = K n := by
  have : ∀ l, frcN' n K l = K n := by
    intro l
    induction l with
    | nil => exact frcE_eq n K
    | cons x xs ih =>
      unfold frcN'
      split
      · rename_i h _; rw [h]
      · exact ih
  exact this _
def frcNs : List Nat → (List Nat → Prop) → Prop
  | [], K => K []
  | x :: xs, K => frcN x fun x => frcNs xs fun ys => K (x :: ys)
theorem frcNs_eq : ∀ (l : List Nat) (K : List Nat → Prop), frcNs l K = K l
  | [], K => rfl
  | x :: xs, K => by unfold frcNs; rw [frcN_eq, frcNs_eq xs]
/-- a value, spelled out -/
def frcV1 : AV → (AV → Prop) → Prop
  | .any, K => K .any
  | .val (.int k n), K => K (.val (.int k n))
  | .val (.bool b), K => K (.val (.bool b))
  | .val v, K => K (.val v)
  | .agg cs, K => K (.agg cs)
  | .tup cs, K => K (.tup cs)
  | .ptr b i j, K => frcN b fun b => frcN j fun j => K (.ptr b i j)
  | .sl b i n, K => frcN b fun b => K (.sl b i n)
  | .list r sz rows, K => frcN r fun r => K (.list r sz rows)
  | .glist r sz rows, K => frcN r fun r => K (.glist r sz rows)
  | .lptr r row j, K => frcN j fun j => K (.lptr r row j)
  | .clo f caps, K => K (.clo f caps)
theorem frcV1_eq (v : AV) (K : AV → Prop) : frcV1 v K = K v := by
  cases v with
  | val u => cases u <;> rfl
  | _ => simp only [frcV1, frcN_eq]
def frcVs : List AV → (List AV → Prop) → Prop
  | [], K => K []
  | x :: xs, K => frcV1 x fun x => frcVs xs fun ys => K (x :: ys)
theorem frcVs_eq : ∀ (l : List AV) (K : List AV → Prop), frcVs l K = K l
  | [], K => rfl
  | x :: xs, K => by unfold frcVs; rw [frcV1_eq, frcVs_eq xs]
def frcV : AV → (AV → Prop) → Prop
  | .agg cs, K => frcVs cs fun cs => K (.agg cs)
  | .tup cs, K => frcVs cs fun cs => K (.tup cs)
  | .clo f caps, K => frcVs caps fun caps => K (.clo f caps)
  | v, K => frcV1 v K
theorem frcV_eq (v : AV) (K : AV → Prop) : frcV v K = K v := by
  cases v <;> simp only [frcV, frcV1_eq, frcVs_eq]
def frcVV : List AV → (List AV → Prop) → Prop
  | [], K => K []
  | x :: xs, K => frcV x fun x => frcVV xs fun ys => K (x :: ys)
theorem frcVV_eq : ∀ (l : List AV) (K : List AV → Prop), frcVV l K = K l
  | [], K => rfl
  | x :: xs, K => by unfold frcVV; rw [frcV_eq, frcVV_eq xs]
def frcW : AV → (AV → Prop) → Prop
  | .tup cs, K => frcVV cs fun cs => K (.tup cs)
  | v, K => frcV v K
theorem frcW_eq (v : AV) (K : AV → Prop) : frcW v K = K v := by
  cases v <;> simp only [frcW, frcV_eq, frcVV_eq]
def frcRs : List (List AV) → (List (List AV) → Prop) → Prop
  | [], K => K []
  | x :: xs, K => frcVs x fun x => frcRs xs fun ys => K (x :: ys)
theorem frcRs_eq : ∀ (l : List (List AV)) (K : List (List AV) → Prop), frcRs l K = K l
  | [], K => rfl
  | x :: xs, K => by unfold frcRs; rw [frcVs_eq, frcRs_eq xs]
def frcO : Own → (Own → Prop) → Prop
  | .live ⟨sz, e, rows⟩, K => frcN sz fun sz => frcE e fun e => frcRs rows fun rows => K (.live ⟨sz, e, rows⟩)
  | .unused, K => K .unused
  | .dead, K => K .dead
  | .perm, K => K .perm
  | .uniq, K => K .uniq
theorem frcO_eq (o : Own) (K : Own → Prop) : frcO o K = K o := by
  cases o with
  | live b => cases b; simp only [frcO, frcRs_eq, frcN_eq, frcE_eq]
  | _ => rfl
/-- what is made of names, spelled out -/
def frcOs : List Own → (List Own → Prop) → Prop
  | [], K => K []
  | x :: xs, K => frcO x fun x => frcOs xs fun ys => K (x :: ys)
theorem frcOs_eq : ∀ (l : List Own) (K : List Own → Prop), frcOs l K = K l
  | [], K => rfl
  | x :: xs, K => by unfold frcOs; rw [frcO_eq, frcOs_eq xs]
def frcTs : List (Nat × Own) → (List (Nat × Own) → Prop) → Prop
  | [], K => K []
  | (n, o) :: T, K => frcN n fun n => frcO o fun o => frcTs T fun T => K ((n, o) :: T)
theorem frcTs_eq : ∀ (l : List (Nat × Own)) (K : List (Nat × Own) → Prop), frcTs l K = K l
  | [], K => rfl
  | (n, o) :: xs, K => by unfold frcTs; rw [frcN_eq, frcO_eq, frcTs_eq xs]

def apE (l : List Own) : List (Nat × Own) → List Own
  | [] => l
  | (n, o) :: T => apE (setO l n o) T
theorem apE_eq : ∀ (T : List (Nat × Own)) (l : List Own), apE l T = apT l T
  | [], l => rfl
  | (n, o) :: T, l => apE_eq T _

/-- two ways; a question that is open -/
def qif (b : Bool) (A B : Prop) : Prop := (b = true → A) ∧ (b = false → B)
def qSome {α : Type} (x : Option α) (K : α → Prop) : Prop := match x with | some a => K a | none => False
def qCase {α : Type} (x : Option α) (K : α → Prop) (N : Prop) : Prop := match x with | some a => K a | none => N
def qBool (x : AV) (A B : Prop) : Prop := match x with | .val (.bool b) => qif b A B | _ => False
def qCall (P : Program) (f : FuncId) (args : List AV) (h : List Own) (K : AV → List Nat → List Nat → List Own → Prop) : Prop :=
  ∃ rd T res, ACall P f args rd T res ∧ Fits h ⟨res, rd, T⟩ ∧ K res (rd.map (·.1)) (T.map (·.1)) (apT h T)

def qOpen (P : Program) (o : Oper) (sl : List AV) (h : List Own) (K : AV → List Nat → List Nat → List Own → Prop) : Prop := AOpen P o sl h K
def qAW (P : Program) (B : Base) (c : Code) (Q : AExit → List AV → List Own → Prop) (sl : List AV) (h : List Own) : Prop := AW P B c (fun e st => Q e st.sl st.h) ⟨sl, h⟩
def qConv (B : Base) (sl : List AV) (h : List Own) (sl' : List AV) (h' : List Own) : Prop := ConvS B ⟨sl, h⟩ ⟨sl', h'⟩

def evOp (P : Program) (o : Oper) (sl : List AV) (h : List Own) (K : AV → List Nat → List Nat → List Own → Prop) : Prop :=
  qCase (callOf sl o) (fun fa => match fa with | (f, args) => frcVV args fun args => qCall P f args h K) (match o.op with
    | .pick c a b => (match ae sl c with
      | .val (.bool g) => qif g (frcW (ae sl a) fun av => K av [] [] h) (frcW (ae sl b) fun av => K av [] [] h)
      | _ => False)
    | _ => qCase (aop P o sl h) (fun r => frcW r.av fun av => frcTs r.T fun T => frcL (apE h T) fun h' => frcNs (r.rd.map (·.1)) fun rd => frcNs (T.map (·.1)) fun wr => K av rd wr h') (qOpen P o sl h K))

def evWant (all : List Oper) (sl : List AV) (j : Nat) (want : Bool) (A B : Prop) : Prop :=
  match (all[j]?).bind (·.dst) with
  | some d => match sl.getD d (.val undef) with
    | .val (.bool g) => (match want with | true => qif g A B | false => qif g B A)
    | .val (.tuple _) => B
    | _ => False
  | none => B
theorem evWant_ok {all : List Oper} {sl : List AV} {j : Nat} {want : Bool} {A B : Prop} {o : Oper} (ho : o.guard = some (j, want)) (H : evWant all sl j want A B) : ∃ b, awanted all o sl = some b ∧ (b = true → A) ∧ (b = false → B) := by
  unfold evWant at H
  unfold awanted
  rw [ho]
  simp only
  split at H
  · rename_i d hd
    rw [hd]
    simp only
    split at H
    · rename_i g hg
      rw [hg]
      refine ⟨g == want, rfl, ?_⟩
      cases want with
      | true => cases g <;> exact ⟨fun h => (by first | exact H.1 rfl | cases h), fun h => (by first | exact H.2 rfl | cases h)⟩
      | false => cases g <;> exact ⟨fun h => (by first | exact H.2 rfl | cases h), fun h => (by first | exact H.1 rfl | cases h)⟩
    · rename_i us hus
      rw [hus]
      exact ⟨false, rfl, (fun h => by cases h), fun _ => H⟩
    · exact H.elim
  · rename_i hd
    rw [hd]
    exact ⟨false, rfl, (fun h => by cases h), fun _ => H⟩

def evOps (P : Program) (all : List Oper) (K : List (List Nat × List Nat) → List AV → List Own → Prop) : List Oper → List (List Nat × List Nat) → List AV → List Own → Prop
  | [], acc, sl, h => K acc.reverse sl h
  | o :: rest, acc, sl, h => match o.guard with
    | none => evOp P o sl h fun av rd wr h' => frcL (aput sl o.dst av) fun sl' => evOps P all K rest ((rd, wr) :: acc) sl' h'
    | some (j, want) => evWant all sl j want (evOp P o sl h fun av rd wr h' => frcL (aput sl o.dst av) fun sl' => evOps P all K rest ((rd, wr) :: acc) sl' h') (frcL (aput sl o.dst (.val undef)) fun sl' => evOps P all K rest (([], []) :: acc) sl' h)

noncomputable def ev (P : Program) (B : Base) (c : Code) : (AExit → List AV → List Own → Prop) → List AV → List Own → Prop :=
  Code.rec (motive := fun _ => (AExit → List AV → List Own → Prop) → List AV → List Own → Prop)
    (fun Q sl h => Q .normal sl h)
    (fun _ ops draw Q sl h => evOps P ops.toList (fun ids sl h => if draw = true then orderOk ops.toList ids = true ∧ Q .normal sl h else Q .normal sl h) ops.toList [] sl h)
    (fun a b ia ib Q sl h => ia (fun e sl h => match e with | .normal => ib Q sl h | e => Q e sl h) sl h)
    (fun c x y ix iy Q sl h => qBool (ae sl c) (ix Q sl h) (iy Q sl h))
    (fun id body ib Q sl h => ib (fun e sl h => match e with | .exit id' => if id' = id then Q .normal sl h else Q (.exit id') sl h | e => Q e sl h) sl h)
    (fun body _ Q sl h => qAW P B (.loop body) Q sl h)
    (fun _ _ _ _ _ _ _ _ _ => False)
    (fun id Q sl h => Q (.exit id) sl h)
    (fun body _ Q sl h => qAW P B (.scope body) Q sl h)
    (fun _ Q sl h => Q .normal sl h)
    (fun l Q sl h => Q (.goto l) sl h)
    (fun Q sl h => Q .ret sl h)
    (fun _ _ _ _ => False) c
theorem ev_cond (P : Program) (B : Base) (c x y Q sl h) : ev P B (.cond c x y) Q sl h = qBool (ae sl c) (ev P B x Q sl h) (ev P B y Q sl h) := rfl
theorem ev_region (P : Program) (B : Base) (id ops draw Q sl h) : ev P B (.region id ops draw) Q sl h = evOps P ops.toList (fun ids sl h => if draw = true then orderOk ops.toList ids = true ∧ Q .normal sl h else Q .normal sl h) ops.toList [] sl h := rfl

def evEnd (P : Program) (B : Base) (rs : List ResultVar) (res : AV) (L1 : List Own) (e : AExit) (sl : List AV) (h : List Own) : Prop :=
  match e with
  | .normal => qSome (ares P rs sl h) fun av => frcW av fun av => qConv B [av] h [res] L1
  | .ret => qSome (ares P rs sl h) fun av => frcW av fun av => qConv B [av] h [res] L1
  | _ => False

theorem evOp_awp {P : Program} {o : Oper} {sl : List AV} {h : List Own} {K : AV → List Nat → List Nat → List Own → Prop} (H : evOp P o sl h K) : aoper P o sl h K := by
  rw [aoper_eq]
  simp only [hold_eq]
  unfold evOp at H
  cases hc : callOf sl o with
  | some fa =>
    rw [hc] at H
    simp only [qCase, frcVV_eq] at H
    exact H
  | none =>
    rw [hc] at H
    simp only [qCase] at H
    split at H
    · rename_i c x y ho
      split at H
      · rename_i g hg
        have hr : aop P o sl h = some ⟨if g then ae sl x else ae sl y, [], []⟩ := by
          unfold aop
          rw [ho]
          simp only [hg, apick, Option.map_some]
        rw [hr]
        simp only [frcW_eq] at H
        cases g with
        | true => exact H.1 rfl
        | false => exact H.2 rfl
      · exact H.elim
    · cases hr : aop P o sl h with
      | none => rw [hr] at H; exact H
      | some r =>
        rw [hr] at H
        simp only [frcL_eq, frcNs_eq, frcW_eq, frcTs_eq, apE_eq] at H
        exact H
theorem aoper_mono {P : Program} {o : Oper} {sl : List AV} {h : List Own} {K K' : AV → List Nat → List Nat → List Own → Prop} (H : aoper P o sl h K) (hk : ∀ a b c d, K a b c d → K' a b c d) : aoper P o sl h K' := by
  rw [aoper_eq] at H ⊢
  simp only [hold_eq] at H ⊢
  cases hc : callOf sl o with
  | some fa =>
    rw [hc] at H
    obtain ⟨rd, T, res, h1, h2, h3⟩ := H
    exact ⟨rd, T, res, h1, h2, hk _ _ _ _ h3⟩
  | none =>
    rw [hc] at H
    cases hr : aop P o sl h with
    | none =>
      rw [hr] at H
      obtain ⟨rd, T, res, h1, h2, h3⟩ := H
      exact ⟨rd, T, res, h1, h2, hk _ _ _ _ h3⟩
    | some r => rw [hr] at H; exact hk _ _ _ _ H

theorem evOps_awp {P : Program} {all : List Oper} {K : List (List Nat × List Nat) → List AV → List Own → Prop} : ∀ (rest : List Oper) (acc : List (List Nat × List Nat)) (sl : List AV) (h : List Own), evOps P all K rest acc sl h →
    awpOps P all (fun ids st => K ids st.sl st.h) rest acc sl h
  | [], acc, sl, h, H => H
  | o :: rest, acc, sl, h, H => by
    rw [awpOps_cons]
    simp only [hold_eq]
    have one : (evOp P o sl h fun av rd wr h' => frcL (aput sl o.dst av) fun sl' => evOps P all K rest ((rd, wr) :: acc) sl' h') → aoper P o sl h fun av rd wr h' => awpOps P all (fun ids st => K ids st.sl st.h) rest ((rd, wr) :: acc) (aput sl o.dst av) h' := fun H1 =>
      aoper_mono (evOp_awp H1) fun av rd wr h' H2 => evOps_awp rest _ _ _ (by rw [frcL_eq] at H2; exact H2)
    unfold evOps at H
    split at H
    · rename_i hg
      have hw : awanted all o sl = some true := by unfold awanted; rw [hg]
      rw [hw, onSome_some, aif_true]
      exact one H
    · rename_i j want hg
      obtain ⟨b, hw, h1, h2⟩ := evWant_ok hg H
      rw [hw, onSome_some]
      exact ⟨fun hb => one (h1 hb), fun hb => evOps_awp rest _ _ _ (by have := h2 hb; rw [frcL_eq] at this; exact this)⟩

theorem awp_mono {P : Program} {B : Base} : ∀ (c : Code) {Q Q' : AExit → ASt → Prop} {sl : List AV} {h : List Own}, awp P B c Q sl h → (∀ e st, Q e st → Q' e st) → awp P B c Q' sl h := by
  have ops : ∀ (all : List Oper) {K K' : List (List Nat × List Nat) → ASt → Prop} (rest : List Oper) (acc : List (List Nat × List Nat)) (sl : List AV) (h : List Own), awpOps P all K rest acc sl h → (∀ ids st, K ids st → K' ids st) → awpOps P all K' rest acc sl h := by
    intro all K K' rest
    induction rest with
    | nil => intro acc sl h H hk; exact hk _ _ H
    | cons o rest ih =>
      intro acc sl h H hk
      rw [awpOps_cons] at H ⊢
      simp only [hold_eq] at H ⊢
      cases hw : awanted all o sl with
      | none => rw [hw] at H; exact H.elim
      | some b =>
        rw [hw] at H
        exact ⟨fun hb => aoper_mono (H.1 hb) fun av rd wr h' H2 => ih _ _ _ H2 hk, fun hb => ih _ _ _ (H.2 hb) hk⟩
  intro c
  induction c with
  | skip => intro Q Q' sl h H hq; exact hq _ _ H
  | label l => intro Q Q' sl h H hq; exact hq _ _ H
  | exit id => intro Q Q' sl h H hq; exact hq _ _ H
  | goto l => intro Q Q' sl h H hq; exact hq _ _ H
  | ret => intro Q Q' sl h H hq; exact hq _ _ H
  | loop body ih => intro Q Q' sl h H hq; exact AW.mono H hq
  | scope body ih => intro Q Q' sl h H hq; exact AW.mono H hq
  | rangeFunc f ps as body ih1 ih2 => intro Q Q' sl h H hq; exact H.elim
  | refuse why => intro Q Q' sl h H hq; exact H.elim
  | block id body ih =>
    intro Q Q' sl h H hq
    refine ih H fun e st He => ?_
    cases e with
    | exit id' =>
      rw [aBlock_exit] at He ⊢
      split
      · rename_i hi; rw [if_pos hi] at He; exact hq _ _ He
      · rename_i hi; rw [if_neg hi] at He; exact hq _ _ He
    | normal => exact hq _ _ He
    | goto l => exact hq _ _ He
    | ret => exact hq _ _ He
  | cond c x y ihx ihy =>
    intro Q Q' sl h H hq
    unfold awp at H ⊢
    rw [hold_eq] at H ⊢
    unfold onBool at H ⊢
    split at H
    · exact ⟨fun hb => ihx (H.1 hb) hq, fun hb => ihy (H.2 hb) hq⟩
    · exact H.elim
  | seq x y ihx ihy =>
    intro Q Q' sl h H hq
    refine ihx H fun e st He => ?_
    cases e with
    | normal => exact ihy He hq
    | exit id' => exact hq _ _ He
    | goto l => exact hq _ _ He
    | ret => exact hq _ _ He
  | region id o draw =>
    intro Q Q' sl h H hq
    unfold awp at H ⊢
    exact ops _ _ _ _ _ H fun ids st h => ⟨h.1, hq _ _ h.2⟩

theorem ev_awp {P : Program} {B : Base} : ∀ (c : Code) (Q : AExit → List AV → List Own → Prop) (sl : List AV) (h : List Own), ev P B c Q sl h → awp P B c (fun e st => Q e st.sl st.h) sl h := by
  intro c
  induction c with
  | skip => intro Q sl h H; exact H
  | label l => intro Q sl h H; exact H
  | exit id => intro Q sl h H; exact H
  | goto l => intro Q sl h H; exact H
  | ret => intro Q sl h H; exact H
  | loop body ih => intro Q sl h H; exact H
  | scope body ih => intro Q sl h H; exact H
  | rangeFunc f ps as body ih1 ih2 => intro Q sl h H; exact H.elim
  | refuse why => intro Q sl h H; exact H.elim
  | block id body ih =>
    intro Q sl h H
    show awp P B body _ sl h
    refine awp_mono body (ih _ _ _ H) fun e st He => ?_
    cases e with
    | exit id' => exact He
    | normal => exact He
    | goto l => exact He
    | ret => exact He
  | cond c x y ihx ihy =>
    intro Q sl h H
    rw [ev_cond] at H
    unfold awp
    rw [hold_eq]
    unfold qBool at H
    unfold onBool
    split at H
    · rename_i b hb
      rw [hb]
      exact ⟨fun hb => ihx _ _ _ (H.1 hb), fun hb => ihy _ _ _ (H.2 hb)⟩
    · exact H.elim
  | seq x y ihx ihy =>
    intro Q sl h H
    show awp P B x _ sl h
    refine awp_mono x (ihx _ _ _ H) fun e st He => ?_
    cases e with
    | normal => exact ihy _ _ _ He
    | exit id' => exact He
    | goto l => exact He
    | ret => exact He
  | region id ops draw =>
    intro Q sl h H
    rw [ev_region] at H
    unfold awp
    have := evOps_awp _ _ _ _ H
    cases draw with
    | true => simpa using this
    | false => simpa using this

theorem ACallL.of_ev {P : Program} (hm : P.follows .mixedOrders = true) {f : FuncId} {fn : Func} {c : Code} {args : List AV} {L0 : List Own} {res : AV} {L1 : List Own} {rs : List ResultVar} {n : Nat} (hf : P.funcs[f]? = some fn) (hb : fn.body = some c) (hc : Callable P f)
    (hrs : fn.results.toList = rs) (hn : fn.ntmps = n) (h : ∀ B : Base, B.h = ofL L0 → ev P B c (evEnd P B rs res L1) (args ++ List.replicate (n - args.length) (.val undef)) L0) : ACallL P f args L0 res L1 := by
  refine ACallL.of_awp hm hf hb hc hrs hn fun B hB => awp_mono _ (ev_awp _ _ _ _ (h B hB)) fun e st He => ?_
  have fin : (qSome (ares P rs st.sl st.h) fun av => frcW av fun av => qConv B [av] st.h [res] L1) → ∃ av, ares P rs st.sl st.h = some av ∧ ConvS B ⟨[av], st.h⟩ ⟨[res], L1⟩ := by
    intro H
    cases hr : ares P rs st.sl st.h with
    | none => rw [hr] at H; exact H.elim
    | some av =>
      rw [hr] at H
      simp only [qSome, frcW_eq] at H
      exact ⟨av, rfl, H⟩
  cases e with
  | normal => exact fin He
  | ret => exact fin He
  | exit id => exact He.elim
  | goto l => exact He.elim

theorem qif_t {b : Bool} {A B : Prop} (hb : b = true) (h : A) : qif b A B := by
  subst hb; exact ⟨fun _ => h, (fun e => by cases e)⟩
theorem qif_f {b : Bool} {A B : Prop} (hb : b = false) (h : B) : qif b A B := by
  subst hb; exact ⟨(fun e => by cases e), fun _ => h⟩
theorem frcVs_i {l : List AV} {K : List AV → Prop} (h : K l) : frcVs l K := by rw [frcVs_eq]; exact h
theorem frcRs_i {l : List (List AV)} {K : List (List AV) → Prop} (h : K l) : frcRs l K := by rw [frcRs_eq]; exact h
theorem qCase_i {α : Type} {x : Option α} {a : α} {K : α → Prop} {N : Prop} (hx : x = some a) (h : K a) : qCase x K N := by rw [hx]; exact h
theorem qif_n {b : Bool} {A B : Prop} (h : qif b B A) : qif (!b) A B := by
  cases b
  · exact ⟨fun _ => h.2 rfl, (fun e => by cases e)⟩
  · exact ⟨(fun e => by cases e), fun _ => h.1 rfl⟩
theorem qif_i {b : Bool} {A B : Prop} (h1 : b = true → A) (h2 : b = false → B) : qif b A B := ⟨h1, h2⟩
attribute [irreducible] qif qCall qOpen qAW qConv
end Go.Proofs.Ytjmjnndmpeeppaa

/- A region of operations on data: in the order of the text, and in whatever order is drawn, if operations that touch one thing come in one order. No condition. -/
import Derived.Test.YtjmjnndmpeeppaaAhiMk
namespace Go.Proofs.Ytjmjnndmpeeppaa
open Go.RowKit
set_option linter.unusedVariables false
set_option linter.unusedSimpArgs false

section
variable {P : Program}

@[go_sem] def aput (sl : List AV) (d : Option Tmp) (v : AV) : List AV := match d with | some d => sl.set d v | none => sl

/-- an operation meets its contract, whatever the names are beside those that it asks of -/
def OpW (P : Program) (o : Oper) (s : List AV) (rd T : List (Nat × Own)) (av : AV) : Prop :=
  ∀ (h : Hp) (m : Nm) (w : World) (a : Act) (K : Act → World → Prop) (Q : Exit → Act → World → Prop), (∀ p ∈ rd, h p.1 = p.2) → Rel m h w → (∀ x ∈ o.op.operands, R m h w (ae s x) (a.eval x)) →
    (∀ v m' w', Rel m' (h.upds T) w' → Ev m h w m' (h.upds T) w' → R m' (h.upds T) w' av v → K (a.put o.dst v) w') → o.wp P a w K Q

theorem OpL.w {o : Oper} {s : List AV} {r : Res} (H : OpL P o s r) : OpW P o s r.rd r.T r.av := by
  intro h m w a K Q hrd rel hop hK
  obtain ⟨nx, v, m', w', hrun, hnx, h1, h2, h3⟩ := H h hrd m w a rel hop
  unfold Oper.wp
  rw [hrun]
  rcases hnx with rfl | ⟨rfl, rfl⟩
  · exact hK v m' w' h1 h2 h3
  · exact hK undef m' w' h1 h2 h3

/-- what is asked before an operation of a guarded expression runs -/
@[go_sem] def awanted (all : List Oper) (o : Oper) (sl : List AV) : Option Bool :=
  match o.guard with
  | none => some true
  | some (j, want) =>
    match (all[j]?).bind (·.dst) with
    | some d => match sl.getD d (.val undef) with
      | .val (.bool g) => some (g == want)
      | .val (.tuple _) => some false
      | _ => none
    | none => some false

theorem awanted_ok {m : Nm} {h : Hp} {w : World} {all : List Oper} {o : Oper} {sl : List AV} {a : Act} {b : Bool} (hw : awanted all o sl = some b)
    (hs : ∀ t ∈ o.looksAt all.toArray, R m h w (sl.getD t (.val undef)) (a.tmps.getD t undef)) : Region.wanted o (yielded all.toArray a.tmps) = b := by
  unfold awanted at hw
  unfold Region.wanted
  split at hw
  · rename_i hg; rw [hg]; cases hw; rfl
  · rename_i j want hg
    rw [hg]
    simp only [yielded, List.getElem?_toArray]
    split at hw
    · rename_i d hd
      have hmem : d ∈ o.looksAt all.toArray := by
        unfold Oper.looksAt
        rw [hg]
        simp only [List.getElem?_toArray, hd]
        simp
      have hR := hs d hmem
      rw [hd]
      simp only [Option.bind_some]
      split at hw
      · rename_i g e
        rw [e] at hR
        have hv := hR.val_inv
        cases hw
        have hlt : d < a.tmps.size := by
          rcases Nat.lt_or_ge d a.tmps.size with h | h
          · exact h
          · simp [Array.getD, Nat.not_lt.2 h, undef] at hv
        have : a.tmps[d]? = some (.bool g) := by
          rw [Array.getElem?_eq_getElem hlt]
          simp [Array.getD, hlt] at hv
          rw [hv]
        rw [this]
        cases g <;> cases want <;> rfl
      · rename_i us e
        rw [e] at hR
        have hv := hR.val_inv
        cases hw
        cases hq : a.tmps[d]? with
        | none => rfl
        | some u =>
          have hlt : d < a.tmps.size := (Array.getElem?_eq_some_iff.1 hq).1
          have : u = .tuple us := by
            simp [Array.getD, hlt] at hv
            rw [Array.getElem?_eq_getElem hlt] at hq
            cases hq; exact hv
          subst this
          rfl
      · cases hw
    · rename_i hd; cases hw; rw [hd]; rfl

/-- one step of a plan: does it run, its value, what it asks, what it makes -/
structure PStep where
  w : Bool
  av : AV
  rd : List (Nat × Own)
  T : List (Nat × Own)
  deriving Inhabited

def PStep.val (p : PStep) : AV := if p.w then p.av else .val undef
def PStep.rids (p : PStep) : List Nat := if p.w then p.rd.map (·.1) else []
def PStep.wids (p : PStep) : List Nat := if p.w then p.T.map (·.1) else []

/-- the plan of a region's run, in the order of the text -/
inductive Plan (P : Program) (all : List Oper) : List Oper → List AV → Hp → List PStep → List AV → Hp → Prop
  | nil (sl : List AV) (h : Hp) : Plan P all [] sl h [] sl h
  | cons (o : Oper) (rest : List Oper) (sl : List AV) (h : Hp) (p : PStep) (ps : List PStep) (sl' : List AV) (h' : Hp) (hw : awanted all o sl = some p.w) (hok : p.w = true → OpW P o sl p.rd p.T p.av ∧ ∀ q ∈ p.rd, h q.1 = q.2)
      (hrest : Plan P all rest (aput sl o.dst p.val) (if p.w then h.upds p.T else h) ps sl' h') : Plan P all (o :: rest) sl h (p :: ps) sl' h'

theorem SlotsR.put {m m' : Nm} {h h' : Hp} {w w' : World} {sl : List AV} {a : Act} (rel : Rel m h w) (ev : Ev m h w m' h' w') (hs : SlotsR m h w sl a) (hl : sl.length = a.tmps.size) {d : Option Tmp} {av : AV} {v : Value} (hv : R m' h' w' av v) :
    SlotsR m' h' w' (aput sl d av) (a.put d v) ∧ (aput sl d av).length = (a.put d v).tmps.size := by
  cases d with
  | none => exact ⟨fun t => (hs t).mono rel ev, hl⟩
  | some d =>
    refine ⟨fun t => ?_, by simp [aput, Act.put, hl]⟩
    by_cases ht : t = d
    · subst ht
      by_cases hlt : t < sl.length
      · have : (a.put (some t) v).tmps.getD t undef = v := by simp [Act.put, Array.getD, ← hl, hlt]
        rw [this]
        simpa [aput, List.getD, List.getElem?_set, hlt] using hv
      · have e1 : (a.put (some t) v).tmps.getD t undef = undef := by simp [Act.put, Array.getD, ← hl, hlt]
        rw [e1]
        simp [aput, List.getD, List.getElem?_set, hlt]
        exact .val _
    · have e1 : (a.put (some d) v).tmps.getD t undef = a.tmps.getD t undef := by
        simp only [Act.put, Array.getD_eq_getD_getElem?, Array.getElem?_setIfInBounds, if_neg (Ne.symm ht)]
      have e2 : (aput sl (some d) av).getD t (.val undef) = sl.getD t (.val undef) := by
        simp [aput, List.getD, List.getElem?_set, Ne.symm ht]
      rw [e1, e2]
      exact (hs t).mono rel ev

/-- The names, the slots and the world are as the data say. -/
structure StR (m : Nm) (sl : List AV) (h : Hp) (a : Act) (w : World) : Prop where
  rel : Rel m h w
  slots : SlotsR m h w sl a
  len : sl.length = a.tmps.size
  defers : a.defers = []

theorem put_defers (a : Act) (d : Option Tmp) (v : Value) : (a.put d v).defers = a.defers := by cases d <;> rfl

/-- In the order of the text. -/
theorem Plan.lex {all : List Oper} {Q : Exit → Act → World → Prop} {sl' : List AV} {h' : Hp} {m0 : Nm} {h0 : Hp} {w0 : World} (rel0 : Rel m0 h0 w0) :
    ∀ (rest : List Oper) (k : Nat) (sl : List AV) (h : Hp) (ps : List PStep), rest = all.drop k → Plan P all rest sl h ps sl' h' → ∀ (m : Nm) (a : Act) (w : World), StR m sl h a w → Ev m0 h0 w0 m h w →
      (∀ m' a' w', StR m' sl' h' a' w' → Ev m0 h0 w0 m' h' w' → Q .normal a' w') → wpOps P all.toArray Q ((List.range' k (all.length - k))) a w := by
  intro rest
  induction rest with
  | nil =>
    intro k sl h ps hk hp m a w st ev hQ
    cases hp
    have : all.length - k = 0 := by
      have := congrArg List.length hk
      simp at this; omega
    rw [this]
    exact hQ m a w st ev
  | cons o rest ih =>
    intro k sl h ps hk hp m a w st ev hQ
    have hlt : k < all.length := by
      have := congrArg List.length hk
      simp at this; omega
    have ho : all[k]? = some o := by
      have := congrArg (fun l => l[0]?) hk
      simpa using this.symm
    have hrest : rest = all.drop (k + 1) := by
      have := congrArg List.tail hk
      simpa using this
    have hr : List.range' k (all.length - k) = k :: List.range' (k + 1) (all.length - (k + 1)) := by
      rw [show all.length - k = (all.length - (k + 1)) + 1 by omega, List.range'_succ]
    rw [hr]
    simp only [wpOps, List.getElem?_toArray, ho]
    cases hp with
    | cons _ _ _ _ p ps _ _ hw hok hpr =>
      rw [awanted_ok (m := m) (h := h) (w := w) hw (fun t _ => st.slots t)]
      cases hpw : p.w with
      | true =>
        rw [if_pos rfl]
        left
        obtain ⟨hop, hrd⟩ := hok hpw
        refine hop h m w a _ Q hrd st.rel (fun x _ => st.slots.eval x) fun v m' w' r1 e1 R1 => ?_
        have sp := SlotsR.put st.rel e1 st.slots st.len (d := o.dst) R1
        rw [hpw] at hpr
        simp only [PStep.val, hpw, if_true] at hpr
        exact ih (k + 1) _ _ ps hrest hpr m' _ w' ⟨r1, sp.1, sp.2, by rw [put_defers]; exact st.defers⟩ (ev.trans rel0 e1) hQ
      | false =>
        rw [if_neg (by simp)]
        have sp := SlotsR.put st.rel (Ev.refl m h w) st.slots st.len (d := o.dst) (R.val (m := m) (h := h) (w := w) undef)
        rw [hpw] at hpr
        simp only [PStep.val, hpw, Bool.false_eq_true, if_false] at hpr
        exact ih (k + 1) _ _ ps hrest hpr m _ w ⟨st.rel, sp.1, sp.2, by rw [put_defers]; exact st.defers⟩ ev hQ
end
end Go.Proofs.Ytjmjnndmpeeppaa

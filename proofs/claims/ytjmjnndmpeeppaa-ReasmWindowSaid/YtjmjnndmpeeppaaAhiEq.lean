/- Comparisons on data: of structs of plain fields, of booleans, of slices with nil. No condition. -/
import Derived.Test.YtjmjnndmpeeppaaAhiGo
import Derived.Laws.StructEq
namespace Go.Proofs.Ytjmjnndmpeeppaa
open Go.RowKit
set_option linter.unusedVariables false
set_option linter.unusedSimpArgs false

section
variable {P : Program}

theorem qOpen.of {o : Oper} {sl : List AV} {h : List Own} {r : Res} {K : AV → List Nat → List Nat → List Own → Prop} (H : OpL P o sl r) (hf : Fits h r) (hq : frcW r.av fun av => frcL (apE h r.T) fun h' => frcL (r.rd.map (·.1)) fun rd => frcL (r.T.map (·.1)) fun wr => K av rd wr h') : qOpen P o sl h K := by
  simp only [frcW_eq, frcL_eq, apE_eq] at hq
  unfold qOpen
  exact ⟨r.rd, r.T, r.av, H.w, hf, hq⟩
theorem qOpen.pure {o : Oper} {sl : List AV} {h : List Own} {av : AV} {K : AV → List Nat → List Nat → List Own → Prop} (H : OpL P o sl ⟨av, [], []⟩) (hq : frcW av fun av => K av [] [] h) : qOpen P o sl h K :=
  qOpen.of (r := ⟨av, [], []⟩) H fits_pure (by simp only [frcW_eq, frcL_eq, apE_eq] at hq ⊢; exact hq)

/-- what is compared: a boolean, a whole number, a string -/
inductive LK where | b | i | s
def leafK (P : Program) (t : TypeId) : Option LK := match P.underlying t with
  | some .bool => some .b
  | some (.int _) => some .i
  | some .string => some .s
  | _ => none
def flatF (P : Program) : Nat → List Field → Option (List LK)
  | _, [] => some []
  | n, f :: fs => if f.name ≠ "_" ∧ f.offset = n then (leafK P f.type).bind fun k => (flatF P (n + 1) fs).map fun ks => k :: ks else none
def flatK (P : Program) (t : TypeId) : Option (List LK) :=
  match P.underlying t with
  | some (.struct fs) => if (!P.eqGuardType P.depth t && !P.stoodInHeld t) = true then flatF P 0 fs.toList else none
  | _ => none

def cmpV : LK → AV → AV → Option Bool
  | .b, .val (.bool a), .val (.bool b) => some (a == b)
  | .i, .val (.int k a), .val (.int k' b) => if k = k' then some (a == b) else none
  | .s, .val (.string a), .val (.string b) => some (a.toList == b.toList)
  | _, _, _ => none
def cmpC : List LK → List AV → List AV → Option Bool
  | [], [], [] => some true
  | k :: ks, a :: as, b :: bs => match cmpV k a b with
    | some x => (match cmpC ks as bs with
      | some y => some (x && y)
      | none => none)
    | none => none
  | _, _, _ => none

theorem leaf_run {t : TypeId} {k : LK} (hk : leafK P t = some k) {a b : AV} {x : Bool} (hc : cmpV k a b = some x) {m m' : Nm} {h h' : Hp} {w : World} {u v : Value} (hu : R m h w a u) (hv : R m' h' w b v) (d : Nat) :
    (Op.equalIn (d + 1) t u v).run P w = .ok x w ∧ isAggT P t = some false := by
  unfold leafK at hk
  unfold cmpV at hc
  split at hc
  · have e1 := hu.val_inv
    have e2 := hv.val_inv
    subst e1 e2
    cases hc
    split at hk <;> first | (rename_i ht; exact ⟨run_equalIn_bool' w d t _ _ ht, by simp [isAggT, ht]⟩) | cases hk
  · have e1 := hu.val_inv
    have e2 := hv.val_inv
    subst e1 e2
    split at hc
    · rename_i hkk
      subst hkk
      cases hc
      split at hk <;> first | (rename_i ht; exact ⟨run_equalIn_int w d t _ _ _ _ ht, by simp [isAggT, ht]⟩) | cases hk
    · cases hc
  · have e1 := hu.val_inv
    have e2 := hv.val_inv
    subst e1 e2
    cases hc
    split at hk <;> first | (rename_i ht; exact ⟨run_equalIn_string w d t _ _ ht, by simp [isAggT, ht]⟩) | cases hk
  · cases hc

theorem flat_run {m : Nm} {h : Hp} {w : World} (d : Nat) : ∀ (fs : List Field) (n : Nat) (ks : List LK) (as bs : List AV) (x : Bool) (us vs : Array Value), flatF P n fs = some ks → cmpC ks as bs = some x →
    (∀ (i : Nat) (c : AV), as[i]? = some c → ∃ u, us[n + i]? = some u ∧ R m h w c u) → (∀ (i : Nat) (c : AV), bs[i]? = some c → ∃ u, vs[n + i]? = some u ∧ R m h w c u) →
    (Op.eqFields (d + 1) us vs fs).run P w = .ok x w := by
  intro fs
  induction fs with
  | nil =>
    intro n ks as bs x us vs hf hc _ _
    simp only [flatF, Option.some.injEq] at hf
    subst hf
    cases as with
    | cons a as => simp [cmpC] at hc
    | nil =>
      cases bs with
      | cons b bs => simp [cmpC] at hc
      | nil => simp only [cmpC, Option.some.injEq] at hc; subst hc; simp [Op.eqFields]
  | cons f fs ih =>
    intro n ks as bs x us vs hf hc ha hb
    unfold flatF at hf
    split at hf
    · rename_i hfn
      simp only [Option.bind_eq_some_iff, Option.map_eq_some_iff] at hf
      obtain ⟨k, hk, ks', hks, rfl⟩ := hf
      cases as with
      | nil => simp [cmpC] at hc
      | cons a as =>
      cases bs with
      | nil => simp [cmpC] at hc
      | cons b bs =>
        simp only [cmpC] at hc
        obtain ⟨x1, hx1, y, hy, rfl⟩ : ∃ x1, cmpV k a b = some x1 ∧ ∃ y, cmpC ks' as bs = some y ∧ (x1 && y) = x := by
          cases h1 : cmpV k a b with
          | none => rw [h1] at hc; cases hc
          | some x1 =>
            rw [h1] at hc
            cases h2 : cmpC ks' as bs with
            | none => rw [h2] at hc; cases hc
            | some y => rw [h2] at hc; exact ⟨x1, rfl, y, rfl, by simpa using hc⟩
        obtain ⟨u, hu, hRu⟩ := ha 0 a rfl
        obtain ⟨v, hv, hRv⟩ := hb 0 b rfl
        obtain ⟨h1, h2⟩ := leaf_run (P := P) hk hx1 hRu hRv d
        have hp : ∀ {vs : Array Value} {v : Value}, vs[n + 0]? = some v → (part f.type vs f.offset).run P w = .ok v w := fun {vs v} hv => by
          unfold part
          rw [hfn.2]
          simp only [Nat.add_zero] at hv
          simp only [Sem.run_bind, run_isAgg h2, Result.andThen_ok, Bool.false_eq_true, if_false, hv, Sem.run_pure]
        unfold Op.eqFields
        rw [if_pos hfn.1]
        simp only [Sem.run_bind, hp hu, hp hv, Result.andThen_ok, h1]
        cases x1 with
        | false => simp
        | true =>
          simp only [Bool.not_true, Bool.false_eq_true, if_false, Bool.true_and]
          exact ih (n + 1) ks' as bs y us vs hks hy (fun i c hc => by have := ha (i + 1) c hc; rwa [show n + (i + 1) = n + 1 + i by omega] at this) (fun i c hc => by have := hb (i + 1) c hc; rwa [show n + (i + 1) = n + 1 + i by omega] at this)
    · cases hf

theorem R.agg_inv {m : Nm} {h : Hp} {w : World} {cs : List AV} {v : Value} (hR : R m h w (.agg cs) v) : ∃ vs : Array Value, v = .agg vs ∧ cs.length = vs.size ∧ ∀ (i : Nat) (c : AV), cs[i]? = some c → ∃ u, vs[i]? = some u ∧ R m h w c u := by
  cases hR with
  | agg _ vs hl hc =>
    refine ⟨vs, rfl, hl, fun i c hi => ?_⟩
    have : i < vs.size := by rw [← hl]; exact (List.getElem?_eq_some_iff.1 hi).1
    exact ⟨vs[i], Array.getElem?_eq_getElem this, hc i c _ hi (Array.getElem?_eq_getElem this)⟩

/-- structs of plain fields: alike, or not -/
theorem aeq_agg {o : Oper} {op : BinOp} {t u : TypeId} {x y : Operand} {sl : List AV} {as bs : List AV} {ks : List LK} {b : Bool} (ho : o.op = .binOp op t x y u) (hop : op = .eql ∨ op = .neq) (h1 : ae sl x = .agg as) (h2 : ae sl y = .agg bs) (hk : flatK P t = some ks) (hc : cmpC ks as bs = some b) :
    OpL P o sl ⟨.val (.bool (if op = .eql then b else !b)), [], []⟩ :=
  OpL.pure fun m hh w a rel hops => by
    have hx := hops x (by simp [ho, Op.operands])
    have hy := hops y (by simp [ho, Op.operands])
    rw [h1] at hx
    rw [h2] at hy
    obtain ⟨us, e1, _, hus⟩ := hx.agg_inv
    obtain ⟨vs, e2, _, hvs⟩ := hy.agg_inv
    unfold flatK at hk
    split at hk
    · rename_i fs hfs
      have g3 : P.underlying t = some (.struct (P.fieldsOf t)) := by simp [Program.fieldsOf, hfs]
      have hfs' : fs = P.fieldsOf t := by simp [Program.fieldsOf, hfs]
      subst hfs'
      split at hk
      case isFalse => cases hk
      rename_i hg
      simp only [Bool.and_eq_true, Bool.not_eq_true'] at hg
      obtain ⟨g1, g2⟩ := hg
      have hr : (Op.equalIn 10000 t (.agg us) (.agg vs)).run P w = .ok b w := by
        rw [run_equalIn_struct w 9999 t us vs g3 g2]
        exact flat_run (m := m) (h := hh) 9998 _ 0 ks as bs b us vs hk hc (fun i c hi => by simpa using hus i c hi) (fun i c hi => by simpa using hvs i c hi)
      refine ⟨.bool (if op = .eql then b else !b), ?_, .val _⟩
      rcases hop with rfl | rfl
      · simp [execOp, ho, e1, e2, run_eqGuard_agg w .eql t x y us vs g1, run_eql_struct, hr]
      · simp [execOp, ho, e1, e2, run_eqGuard_agg w .neq t x y us vs g1, run_neq_struct, hr]
    · cases hk
theorem qOpen.eq {o : Oper} {t u : TypeId} {x y : Operand} {sl : List AV} {h : List Own} {as bs : List AV} {ks : List LK} {b : Bool} {K : AV → List Nat → List Nat → List Own → Prop} (hk : flatK P t = some ks) (ho : o.op = .binOp .eql t x y u) (h1 : ae sl x = .agg as) (h2 : ae sl y = .agg bs) (hc : cmpC ks as bs = some b)
    (hq : K (.val (.bool b)) [] [] h) : qOpen P o sl h K := qOpen.pure (aeq_agg ho (.inl rfl) h1 h2 hk hc) hq
theorem qOpen.ne {o : Oper} {t u : TypeId} {x y : Operand} {sl : List AV} {h : List Own} {as bs : List AV} {ks : List LK} {b : Bool} {K : AV → List Nat → List Nat → List Own → Prop} (hk : flatK P t = some ks) (ho : o.op = .binOp .neq t x y u) (h1 : ae sl x = .agg as) (h2 : ae sl y = .agg bs) (hc : cmpC ks as bs = some b)
    (hq : K (.val (.bool (!b))) [] [] h) : qOpen P o sl h K := qOpen.pure (aeq_agg ho (.inr rfl) h1 h2 hk hc) hq

/-- booleans: alike, or not -/
theorem aeq_bool {o : Oper} {op : BinOp} {t u : TypeId} {x y : Operand} {sl : List AV} {p q : Bool} (ht : leafK P t = some .b) (ho : o.op = .binOp op t x y u) (hop : op = .eql ∨ op = .neq) (h1 : ae sl x = .val (.bool p)) (h2 : ae sl y = .val (.bool q)) :
    OpL P o sl ⟨.val (.bool (if op = .eql then p == q else !(p == q))), [], []⟩ :=
  OpL.pure fun m hh w a rel hops => by
    have hx := hops x (by simp [ho, Op.operands])
    have hy := hops y (by simp [ho, Op.operands])
    rw [h1] at hx
    rw [h2] at hy
    have e1 := hx.val_inv
    have e2 := hy.val_inv
    have hr := (leaf_run (P := P) (a := .val (.bool p)) (b := .val (.bool q)) (x := p == q) ht rfl (R.val (m := m) (h := hh) (w := w) _) (R.val (m := m) (h := hh) (w := w) _) 9999).1
    refine ⟨_, ?_, .val _⟩
    rcases hop with rfl | rfl
    · simp [execOp, ho, e1, e2, eqGuard, binOp, Op.equal, Op.maxDepth, hr]
    · simp [execOp, ho, e1, e2, eqGuard, binOp, Op.equal, Op.maxDepth, hr]
theorem qOpen.eqb {o : Oper} {t u : TypeId} {x y : Operand} {sl : List AV} {h : List Own} {p q : Bool} {K : AV → List Nat → List Nat → List Own → Prop} (ht : leafK P t = some .b) (ho : o.op = .binOp .eql t x y u) (h1 : ae sl x = .val (.bool p)) (h2 : ae sl y = .val (.bool q))
    (hq : K (.val (.bool (p == q))) [] [] h) : qOpen P o sl h K := qOpen.pure (aeq_bool ht ho (.inl rfl) h1 h2) hq
theorem qOpen.neb {o : Oper} {t u : TypeId} {x y : Operand} {sl : List AV} {h : List Own} {p q : Bool} {K : AV → List Nat → List Nat → List Own → Prop} (ht : leafK P t = some .b) (ho : o.op = .binOp .neq t x y u) (h1 : ae sl x = .val (.bool p)) (h2 : ae sl y = .val (.bool q))
    (hq : K (.val (.bool (!(p == q)))) [] [] h) : qOpen P o sl h K := qOpen.pure (aeq_bool ht ho (.inr rfl) h1 h2) hq
end
end Go.Proofs.Ytjmjnndmpeeppaa

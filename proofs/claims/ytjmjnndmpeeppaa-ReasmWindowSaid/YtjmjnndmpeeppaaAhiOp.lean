/- What an operation comes to on data: numbers, structs, addresses, memory. No condition. -/
import Derived.Test.YtjmjnndmpeeppaaAhi2
namespace Go.Proofs.Ytjmjnndmpeeppaa
open Go.RowKit
set_option linter.unusedVariables false
set_option linter.unusedSimpArgs false

/-- a value of one cell -/
def AV.one : AV → Bool
  | .val v => v.oneCell'
  | .ptr .. | .sl .. | .list .. | .glist .. | .lptr .. | .clo .. => true
  | _ => false
theorem R.one {m : Nm} {h : Hp} {w : World} {c : AV} {v : Value} (hR : R m h w c v) (h1 : c.one = true) : v.oneCell' = true := by
  cases hR <;> first | rfl | assumption | (simp [AV.one] at h1; done)

def AV.cells : AV → List AV
  | .agg cs => cs
  | c => [c]

/-- an operation's result, what it asks of names, what it makes of names -/
structure Res where
  av : AV
  rd : List (Nat × Own)
  T : List (Nat × Own)

@[go_sem] def ae (s : List AV) : Operand → AV
  | .tmp t => s.getD t (.val undef)
  | .const v => .val v
  | .global g => .val (.pointer (some ⟨g, 0, none⟩))
  | .func f => .clo f []

/-- the temporaries read as the data -/
def SlotsR (m : Nm) (h : Hp) (w : World) (s : List AV) (a : Act) : Prop := ∀ t, R m h w (s.getD t (.val undef)) (a.tmps.getD t undef)

theorem SlotsR.eval {m : Nm} {h : Hp} {w : World} {s : List AV} {a : Act} (hs : SlotsR m h w s a) (x : Operand) : R m h w (ae s x) (a.eval x) := by
  cases x with
  | tmp t => exact hs t
  | const v => exact .val v
  | global g => exact .val _
  | func f => exact .clo f [] #[] rfl (by simp)

/-- What an operation comes to: in every world where the names are as asked. -/
def OpV (P : Program) (o : Oper) (s : List AV) (h : Hp) (r : Res) : Prop :=
  ∀ (m : Nm) (w : World) (a : Act), Rel m h w → (∀ x ∈ o.op.operands, R m h w (ae s x) (a.eval x)) →
    ∃ nx v m' w', (execOp a.eval o).run P w = .ok nx w' ∧ (nx = .value v ∨ nx = .skip ∧ v = undef) ∧ Rel m' (h.upds r.T) w' ∧ Ev m h w m' (h.upds r.T) w' ∧ R m' (h.upds r.T) w' r.av v
def OpL (P : Program) (o : Oper) (s : List AV) (r : Res) : Prop := ∀ h : Hp, (∀ p ∈ r.rd, h p.1 = p.2) → OpV P o s h r

/-- it only computes -/
theorem OpL.pure {P : Program} {o : Oper} {s : List AV} {av : AV} (H : ∀ (m : Nm) (h : Hp) (w : World) (a : Act), Rel m h w → (∀ x ∈ o.op.operands, R m h w (ae s x) (a.eval x)) → ∃ v, (execOp a.eval o).run P w = .ok (.value v) w ∧ R m h w av v) : OpL P o s ⟨av, [], []⟩ := by
  intro h _ m w a rel hop
  obtain ⟨v, h1, h2⟩ := H m h w a rel hop
  exact ⟨_, v, m, w, h1, .inl rfl, rel, Ev.refl m h w, h2⟩

theorem R.val_inv {m : Nm} {h : Hp} {w : World} {u v : Value} (hR : R m h w (.val u) v) : v = u := by cases hR; rfl

/-! ### numbers -/

@[go_sem] def abin : BinOp → Value → Value → Option Value
  | .add, .int k a, .int k' b => if k = k' then some (.int k (k.wrap (a + b))) else none
  | .sub, .int k a, .int k' b => if k = k' then some (.int k (k.wrap (a - b))) else none
  | .mul, .int k a, .int k' b => if k = k' then some (.int k (k.wrap (a * b))) else none
  | .quo, .int k a, .int k' b => if k = k' then (if b = 0 then none else some (.int k (k.wrap (a.tdiv b)))) else none
  | .rem, .int k a, .int k' b => if k = k' then (if b = 0 then none else some (.int k (a.tmod b))) else none
  | .and, .int k a, .int k' b => if k = k' then some (.int k (bits .and k a b)) else none
  | .or, .int k a, .int k' b => if k = k' then some (.int k (bits .or k a b)) else none
  | .xor, .int k a, .int k' b => if k = k' then some (.int k (bits .xor k a b)) else none
  | .shl, .int k a, .int _ b => if b < 0 then none else some (.int k (k.wrap (a * 2 ^ (min b.toNat k.bits))))
  | .shr, .int k a, .int _ b => if b < 0 then none else some (.int k (a.fdiv (2 ^ (min b.toNat k.bits))))
  | .eql, .int k a, .int k' b => if k = k' then some (.bool (a == b)) else none
  | .neq, .int k a, .int k' b => if k = k' then some (.bool (a != b)) else none
  | .lss, .int k a, .int k' b => if k = k' then some (.bool (decide (a < b))) else none
  | .leq, .int k a, .int k' b => if k = k' then some (.bool (decide (a ≤ b))) else none
  | .gtr, .int k a, .int k' b => if k = k' then some (.bool (decide (b < a))) else none
  | .geq, .int k a, .int k' b => if k = k' then some (.bool (decide (b ≤ a))) else none
  | _, _, _ => none

theorem eqGuard_int (P : Program) (w : World) (op : BinOp) (t : TypeId) (x y : Operand) (k k' : IntKind) (a b : Int) : (eqGuard op t x y (.int k a) (.int k' b)).run P w = .ok () w := by
  cases op <;> simp [eqGuard]

theorem abin_run {P : Program} {w : World} {op : BinOp} {t : TypeId} {x y : Operand} {u v r : Value} (h : abin op u v = some r) : (do eqGuard op t x y u v; binOp op t u v : Sem Value).run P w = .ok r w := by
  cases u <;> cases v <;> (try (cases op <;> simp [abin] at h; done))
  rename_i k a k' b
  rw [Sem.run_bind, eqGuard_int]
  cases op <;> simp only [abin] at h
  all_goals first
    | (split at h
       · rename_i hk; subst hk; cases h; simp [binOp, Op.intArith, Op.intCmp, Op.intBits, bits])
    | (split at h
       · rename_i hk; subst hk
         split at h
         · cases h
         · rename_i hb; cases h; simp [binOp, Op.intDiv, hb]
       · cases h)
    | (split at h
       · cases h
       · rename_i hb; cases h; simp [binOp, Op.shift, hb])
    | cases h
  all_goals cases h

@[go_sem] def aun : UnOp → Value → Option Value
  | .not, .bool b => some (.bool (!b))
  | .neg, .int k n => some (.int k (k.wrap (0 - n)))
  | _, _ => none
theorem aun_run {P : Program} {w : World} {op : UnOp} {u r : Value} (h : aun op u = some r) : (Op.unary op u).run P w = .ok r w := by
  cases op <;> cases u <;> simp [aun] at h <;> subst h <;> simp [Op.unary, Op.intArith]
end Go.Proofs.Ytjmjnndmpeeppaa

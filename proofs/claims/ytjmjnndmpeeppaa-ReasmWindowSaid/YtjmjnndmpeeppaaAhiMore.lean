/- Loops of a known number of rounds. No condition. -/
import Derived.Test.YtjmjnndmpeeppaaAhiSt
import Derived.Lib.SliceRun
namespace Go.Proofs.Ytjmjnndmpeeppaa
open Go.RowKit
set_option linter.unusedVariables false
set_option linter.unusedSimpArgs false

section
variable {P : Program}
/-- what follows a round of a loop, for so many rounds -/
def loopN (P : Program) (B : Base) (body : Code) (Q : AExit → List AV → List Own → Prop) : Nat → AExit → List AV → List Own → Prop
  | 0, .normal, sl, h => False
  | n + 1, .normal, sl, h => ev P B body (loopN P B body Q n) sl h
  | _, .exit id, sl, h => Q (.exit id) sl h
  | _, .goto l, sl, h => Q (.goto l) sl h
  | _, .ret, sl, h => Q .ret sl h
theorem qAW.unroll (hm : P.follows .mixedOrders = true) (n : Nat) {B : Base} {body : Code} {Q : AExit → List AV → List Own → Prop} {sl : List AV} {h : List Own} (first : ev P B body (loopN P B body Q n) sl h) : qAW P B (.loop body) Q sl h := by
  unfold qAW
  intro m w a hs hev
  refine wp_loop_rounds (n + 1) ?_
  have key : ∀ n (sl : List AV) (h : List Own), ev P B body (loopN P B body Q n) sl h → ∀ m w a, StR m sl (ofL h) a w → B.ev m (ofL h) w → Code.rounds P body (fun e a' w' => ∃ (e' : AExit) (st' : ASt) (m' : Nm), e = AExit.conc e' ∧ Q e' st'.sl st'.h ∧ StR m' st'.sl (ofL st'.h) a' w' ∧ B.ev m' (ofL st'.h) w') (n + 1) a w := by
    intro n
    induction n with
    | zero =>
      intro sl h H m w a hs hev
      rw [rounds_succ]
      refine wp_mono (awp_sound hm _ _ ⟨sl, h⟩ (ev_awp _ _ _ _ H) m w a hs hev) ?_
      rintro e a' w' ⟨e', st', m', rfl, hq, hs', ev'⟩
      cases e' with
      | normal => exact hq.elim
      | exit id => exact ⟨.exit id, st', m', rfl, hq, hs', ev'⟩
      | goto l => exact ⟨.goto l, st', m', rfl, hq, hs', ev'⟩
      | ret => exact ⟨.ret, st', m', rfl, hq, hs', ev'⟩
    | succ n ih =>
      intro sl h H m w a hs hev
      rw [rounds_succ]
      refine wp_mono (awp_sound hm _ _ ⟨sl, h⟩ (ev_awp _ _ _ _ H) m w a hs hev) ?_
      rintro e a' w' ⟨e', st', m', rfl, hq, hs', ev'⟩
      cases e' with
      | normal => exact ih st'.sl st'.h hq m' w' a' hs' ev'
      | exit id => exact ⟨.exit id, st', m', rfl, hq, hs', ev'⟩
      | goto l => exact ⟨.goto l, st', m', rfl, hq, hs', ev'⟩
      | ret => exact ⟨.ret, st', m', rfl, hq, hs', ev'⟩
  exact key n sl h first m w a hs hev
/-- a call that answers with new memory, and does nothing else -/
theorem qCall.fresh {f : FuncId} {args : List AV} (res : Nat → AV) (H : ACallL P f args [.perm] (res 1) [.perm, .uniq]) (imm bor : Prs) {aa : List AV} {h : List Own} {K : AV → List Nat → List Nat → List Own → Prop}
    (hk : callB [.perm] [.perm, .uniq] h [] imm bor [(1, h.length)] [(h.length, .uniq)] = true)
    (hq : avsE [] imm.swap bor.swap h aa args (av2E (outL [.perm, .uniq] [] [(1, h.length)]) (outI [.perm, .uniq] imm bor [(1, h.length)]) [] [.perm, .uniq] (res 1) (res h.length)
      (frcNs (imm.map (·.2) ++ bor.map (·.2) ++ [h.length]) fun rd => frcNs [h.length] fun wr => frcTs (wr.map fun x => (x, look [(h.length, .uniq)] x)) fun T => frcL (apE h T) fun h' => frcW (res h.length) fun res' => K res' rd wr h'))) : qCall P f aa h K := by
  refine qCall.of H [] imm bor [(1, h.length)] [(h.length, .uniq)] (res h.length) hk ?_
  have e : (eatOf [.perm, .uniq] imm).map (·.2) = [] := by
    have : eatOf [.perm, .uniq] imm = [] := by
      unfold eatOf
      rw [List.filter_eq_nil_iff]
      intro p _
      rcases p with ⟨_ | _ | k, x⟩ <;> simp [ofL, List.getD, Own.isDead]
    rw [this]; rfl
  have key : aftE (qOf (outL [.perm, .uniq] [] [(1, h.length)]) (outI [.perm, .uniq] imm bor [(1, h.length)]) []) [.perm, .uniq] [(h.length, .uniq)] [(1, h.length)] = fun K => K := by
    funext K
    unfold aftE
    simp only [ofL, List.getD]
    rfl
  simp only [key, e]
  exact hq
/-- a call that reads, and answers numbers -/
theorem qCall.reads {f : FuncId} {args : List AV} {res : AV} (H : ACallL P f args [.perm] res [.perm]) (imm bor : Prs) {aa : List AV} {h : List Own} {K : AV → List Nat → List Nat → List Own → Prop}
    (hk : callB [.perm] [.perm] h [] imm bor [] [] = true)
    (hq : avsE [] imm.swap bor.swap h aa args (av2E [] (outI [.perm] imm bor []) [] [.perm] res res (frcNs (imm.map (·.2) ++ bor.map (·.2)) fun rd => frcL h fun h' => frcW res fun res' => K res' rd [] h'))) : qCall P f aa h K := by
  refine qCall.of H [] imm bor [] [] res hk ?_
  have e : (eatOf [.perm] imm).map (·.2) = [] := by
    have : eatOf [.perm] imm = [] := by
      unfold eatOf
      rw [List.filter_eq_nil_iff]
      intro p _
      rcases p with ⟨_ | k, x⟩ <;> simp [ofL, List.getD, Own.isDead]
    rw [this]; rfl
  simp only [e, List.map_nil, List.nil_append, List.append_nil, frcNs, frcTs, apE, aftE]
  exact hq
theorem RowsRen.pl2 {L I F : Prs} {h : Hp} {rows rows' : List (List AV)} (h0 : I.has 0 0 = true) (e : rows = rows') (hp : PlRows rows') : RowsRen (qOf L I F) h rows rows' := .pl h0 e (e ▸ hp)
def AV.isVal : AV → Bool | .val _ => true | _ => false
/-- rows of numbers alone -/
theorem RowsRen.vals {q : Rn} {h : Hp} {rows rows' : List (List AV)} (e : rows = rows') (hv : rows'.all (fun r => r.all AV.isVal) = true) : RowsRen q h rows rows' := by
  subst e
  refine ⟨rfl, fun i row row' a b => by rw [a] at b; cases b; rfl, fun i j row row' c c' a b d e => ?_⟩
  rw [a] at b; cases b
  rw [d] at e; cases e
  have := List.all_eq_true.1 (List.all_eq_true.1 hv row (List.mem_of_getElem? a)) c (List.mem_of_getElem? d)
  cases c <;> simp [AV.isVal] at this
  exact .val _
theorem orderOk_i {a : List Oper} {b : List (List Nat × List Nat)} (h : orderOk a b = true) : orderOk a b = true := h
theorem eqv_i {α : Type} {a b : α} (h : a = b) : a = b := h
theorem ren_i {q : Rn} {h : Hp} {a b : List (List AV)} (H : RowsRen q h a b) : RowsRen q h a b := H
/-- a call on numbers, and on memory that stays: it answers with new memory -/
theorem qCall.fresh0 {f : FuncId} {args : List AV} (res : Nat → AV) (H : ACallL P f args [.perm] (res 1) [.perm, .uniq]) {h : List Own} {K : AV → List Nat → List Nat → List Own → Prop}
    (h0 : qTrue (sameImm (ofL h 0) .perm) True) (ha : ∀ c ∈ args, Pl c)
    (hq : av2E [] [(1, h.length), (0, 0)] [] [.perm, .uniq] (res 1) (res h.length) (frcN h.length fun n => frcTs [(n, .uniq)] fun T => frcL (apE h T) fun h' => frcW (res n) fun res' => K res' [0, n] [n] h')) : qCall P f args h K := by
  have h1 : sameImm (ofL h 0) .perm = true := (qTrue_i h0).1
  have h2 : ofL h 0 = .perm := by cases e : ofL h 0 <;> rw [e] at h1 <;> first | rfl | cases h1
  have hlen : 0 < h.length := ofL_used (by rw [h2]; rfl)
  obtain ⟨hres, hq⟩ := av2E_ok hq
  have eq : qOf [] [(1, h.length), (0, 0)] [] = qOut (ofL [.perm, .uniq]) [] [(0, 0)] [] [(1, h.length)] := by
    rw [← qOut_of]; rfl
  rw [eq] at hres
  simp only [frcN_eq, frcTs_eq, frcL_eq, frcW_eq, apE_eq] at hq
  unfold qCall
  have okq : RnOk (ofL h) (ofL [.perm]) (qIn [] [(0, 0)] []) := by
    refine ⟨fun y k' hy => ?_, ?_, ?_, ?_, ?_, ?_, ?_, ?_, ?_⟩ <;> try (intros; simp_all [qIn]; done)
    · exfalso; cases y <;> simp [ofL, List.getD] at hy
    · intro x y hxy
      simp [qIn] at hxy
      obtain ⟨rfl, rfl⟩ := hxy
      rw [h2]
      exact ⟨trivial, trivial, fun e => by cases e⟩
  have cf : CallFit (ofL [.perm]) (ofL [.perm, .uniq]) (ofL h) (fun x => if x = h.length then .uniq else .unused) [] [(0, 0)] [] [] [(1, h.length)] := by
    refine ⟨okq, fun k hk => ?_, by simp, by simp, fun k x hx h0 h1 => ?_, fun k x hx => ?_, fun k k' x hx hx' => ?_, fun k x x' hx hx' => ?_, by simp, fun k x hx => ?_⟩
    · rcases k with _ | k
      · exact .inl rfl
      · simp [ofL, List.getD, Own.imm] at hk
    · simp at hx
      obtain ⟨rfl, rfl⟩ := hx
      cases h0
    · simp at hx
      obtain ⟨rfl, rfl⟩ := hx
      exact ⟨rfl, ofL_len h⟩
    · simp at hx hx'
      omega
    · simp at hx hx'
      omega
    · simp at hx
      obtain ⟨rfl, rfl⟩ := hx
      exact .inr ⟨rfl, by simp⟩
  refine ⟨_, _, res h.length, ACall.of H cf ⟨rfl, fun i c c' a b => by rw [a] at b; cases b; exact (ha c (List.mem_of_getElem? a)).ren (by simp [qIn])⟩ hres, ⟨?_, ?_⟩, ?_⟩
  · intro q hq
    simp at hq
    rcases hq with rfl | rfl
    · rfl
    · exact ofL_len h
  · simp [fitT]
  · simpa using hq
/-- a slice that is surely not nil -/
def AV.someSl : AV → Bool
  | .list _ _ (_ :: _) => true
  | .glist _ _ (_ :: _) => true
  | .sl _ _ _ => true
  | _ => false
theorem R.someSl {m : Nm} {h : Hp} {w : World} {look : Nat → Own} {c : AV} {v : Value} {rd : List (Nat × Own)} (rel : Rel m h w) (hc : c.someSl = true) (hl : alive look c = some rd) (hrd : ∀ p ∈ rd, h p.1 = p.2) (hR : R m h w c v) : ∃ a n cap, v = .slice (some a) n cap := by
  cases c <;> simp only [AV.someSl, Bool.false_eq_true] at hc
  case list r sz rows =>
    cases rows with
    | nil => cases hc
    | cons row rows =>
      obtain ⟨kd, hk, rfl⟩ := alive_list hl
      rcases R.list_inv (by rw [hrd (_, kd) (by simp)]; exact hk) hR with ⟨h1, h2⟩ | ⟨h1, a, cap, h2, _⟩ | ⟨g, off, cap, e, _⟩
      · cases h1
      · cases h1
      · exact ⟨_, _, _, e⟩
  case glist r sz rows =>
    cases rows with
    | nil => cases hc
    | cons row rows =>
      obtain ⟨kd, hk, rfl⟩ := alive_glist hl
      rcases R.list_inv (by rw [hrd (_, kd) (by simp)]; exact hk) hR.g2l with ⟨h1, h2⟩ | ⟨h1, a, cap, h2, _⟩ | ⟨g, off, cap, e, _⟩
      · cases h1
      · cases h1
      · exact ⟨_, _, _, e⟩
  case sl b i n =>
    obtain ⟨k, rfl⟩ := alive_sl hl
    obtain ⟨off, cap, e, _⟩ := R.sl_inv rel (hrd (_, .live k) (by simp)) hR
    exact ⟨_, _, _, e⟩
theorem aeq_nil {o : Oper} {t u e : TypeId} {x y : Operand} {sl : List AV} {look : Nat → Own} {rd : List (Nat × Own)} (ht : elemT P t = some e) (ho : o.op = .binOp .eql t x y u) (h1 : (ae sl x).someSl = true) (hl : alive look (ae sl x) = some rd) (h2 : ae sl y = .val (.slice none 0 0)) :
    OpL P o sl ⟨.val (.bool false), rd, []⟩ :=
  OpL.pureR fun m hh w a hrd rel hops => by
    have hx := hops x (by simp [ho, Op.operands])
    have hy := hops y (by simp [ho, Op.operands])
    rw [h2] at hy
    have e2 := hy.val_inv
    obtain ⟨ad, n, cap, e1⟩ := R.someSl rel h1 hl hrd hx
    have he := Lib.run_eql_slice_nil (P := P) w t e (some ad) n cap 0 0 (elemT_inv ht)
    refine ⟨_, ?_, .val _⟩
    simp [execOp, ho, e1, e2, eqGuard, he]
/-- a slice that is surely not nil is held against nil -/
theorem qOpen.nilF {o : Oper} {t u e : TypeId} {x y : Operand} {sl : List AV} {h : List Own} {rd : List (Nat × Own)} {K : AV → List Nat → List Nat → List Own → Prop} (ht : elemT P t = some e) (ho : o.op = .binOp .eql t x y u) (h1 : (ae sl x).someSl = true) (hl : alive (ofL h) (ae sl x) = some rd) (h2 : ae sl y = .val (.slice none 0 0))
    (hq : frcL h fun h' => frcNs (rd.map (·.1)) fun rd => K (.val (.bool false)) rd [] h') : qOpen P o sl h K :=
  qOpen.of (aeq_nil ht ho h1 hl h2) ⟨fun q hq => alive_rd hl q hq, trivial⟩ (by simp only [frcL_eq, frcNs_eq, frcW_eq, apE] at hq ⊢; exact hq)
/-- Out of a contract of the walk's own: new memory alone is made. -/
theorem Rel.addU {m : Nm} {w w' : World} (rel : Rel m (ofL [.perm]) w) (bel : Below w.heap.size w w') : Rel (m.of 1 fun _ => False) (ofL [.perm, .uniq]) w' ∧ Ev m (ofL [.perm]) w (m.of 1 fun _ => False) (ofL [.perm, .uniq]) w' := by
  obtain ⟨o1, o2, o3, hs, hg⟩ := bel
  have h0 : ofL [.perm, .uniq] 0 = .perm := rfl
  have h1 : ofL [.perm, .uniq] 1 = .uniq := rfl
  have h2 : ∀ k, ofL [.perm, .uniq] (k + 2) = .unused := fun k => by simp [ofL, List.getD]
  have p0 : ofL [.perm] 0 = .perm := rfl
  have p2 : ∀ k, ofL [.perm] (k + 1) = .unused := fun k => by simp [ofL, List.getD]
  have nl : ∀ x k, ofL [.perm, .uniq] x ≠ .live k := fun x k h => by
    rcases x with _ | _ | x
    · rw [h0] at h; cases h
    · rw [h1] at h; cases h
    · rw [h2] at h; cases h
  have nl' : ∀ x k, ofL [.perm] x ≠ .live k := fun x k h => by
    rcases x with _ | x
    · rw [p0] at h; cases h
    · rw [p2] at h; cases h
  have ev : Ev m (ofL [.perm]) w (m.of 1 fun _ => False) (ofL [.perm, .uniq]) w' := by
    refine ⟨fun _ _ => rfl, fun x hx => ?_, fun x => ?_, hs, fun x k k' h => absurd h (nl' x k), fun g hg' _ _ => hg g hg', fun x k _ h => absurd h (nl x k), fun r g h3 h4 h5 => ?_, o1, o2, o3⟩
    · rcases x with _ | x
      · rfl
      · rw [p2] at hx; exact absurd rfl hx
    · rcases x with _ | _ | x
      · rw [p0, h0]; trivial
      · rw [p2]; trivial
      · rw [p2]; trivial
    · rcases r with _ | _ | r
      · rw [h0] at h4; cases h4
      · rw [Nm.of_same] at h5; exact h5.elim
      · rw [h2] at h4; cases h4
  have im : ∀ r g, (ofL [.perm, .uniq] r).imm → (m.of 1 fun _ => False).set r g → r = 0 ∧ m.set 0 g := fun r g hr hs => by
    rcases r with _ | _ | r
    · exact ⟨rfl, hs⟩
    · rw [Nm.of_same] at hs; exact hs.elim
    · rw [h2] at hr; exact hr.elim
  refine ⟨⟨fun x k h => absurd h (nl x k), fun x y k k' h => absurd h (nl x k), fun x k r h => absurd h (nl x k), fun r r' g hr _ _ hs _ => ?_, fun r g hr hs => ?_, fun r g hr hs => ?_⟩, ev⟩
  · obtain ⟨rfl, _⟩ := im r g (by rw [hr]; trivial) hs
    rw [h0] at hr; cases hr
  · obtain ⟨rfl, h⟩ := im r g hr hs
    exact Nat.lt_of_lt_of_le (rel.bound 0 g (by rw [p0]; trivial) h) (by assumption)
  · obtain ⟨rfl, _⟩ := im r g (by rw [hr]; trivial) hs
    rw [h0] at hr; cases hr
theorem ACallL.of_calls {f : FuncId} {args : List AV} {res : AV} (hc : Callable P f) (H : ∀ (m : Nm) (w : World) (vs : Array Value), Rel m (ofL [.perm]) w → RL m (ofL [.perm]) w args vs → Calls P f vs w fun e w' => ∃ v, e = .returned v ∧ Below w.heap.size w w' ∧ ∀ m', R m' (ofL [.perm, .uniq]) w' res v) :
    ACallL P f args [.perm] res [.perm, .uniq] :=
  ⟨hc, fun m w vs rel hl => (H m w vs rel hl).mono fun e w' ⟨v, h1, h2, h3⟩ => ⟨v, _, h1, (Rel.addU rel h2).1, (Rel.addU rel h2).2, h3 _⟩⟩
/-- an empty list is nil, or a slice of nothing -/
theorem R.nil_inv {m : Nm} {h : Hp} {w : World} {r sz : Nat} {v : Value} (hi : (h r).imm) (hR : R m h w (.list r sz []) v) : v = .slice none 0 0 ∨ ∃ a cap, v = .slice (some a) 0 cap := by
  rcases R.list_inv hi hR with ⟨_, e⟩ | ⟨_, a, cap, e, _⟩ | ⟨g, off, cap, e, _⟩
  · exact .inl e
  · exact .inr ⟨a, cap, e⟩
  · exact .inr ⟨_, cap, e⟩
end
end Go.Proofs.Ytjmjnndmpeeppaa

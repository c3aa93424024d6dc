/- A state on data seen under other names; loops; labels; a function's contract out of its body. No condition. -/
import Derived.Test.YtjmjnndmpeeppaaAhiRen
namespace Go.Proofs.Ytjmjnndmpeeppaa
open Go.RowKit
set_option linter.unusedVariables false
set_option linter.unusedSimpArgs false

/-- The names may be turned, those of the base staying. -/
structure RnB (b h h' : Hp) (q : Rn) : Prop where
  ok : RnOk h h' q
  L : ∀ x y, q.L x y → b y ≠ .unused → x = y
  I : ∀ x y, q.I x y → b y ≠ .unused → x = y
  Ib : ∀ y, b y ≠ .unused → (h' y).imm → q.I y y
  F : ∀ x y, q.F x y → b y = .unused
  kind : ∀ y, b y ≠ .unused → (h y).goes (h' y)
  newU : ∀ x y, q.I x y → b y = .unused → h' y = .uniq → b x ≠ .unused → h' x = .dead

/-- the state may be seen as the other -/
def ConvS (B : Base) (st st' : ASt) : Prop :=
  ∀ (m : Nm) (w : World) (a : Act), StR m st.sl (ofL st.h) a w → B.ev m (ofL st.h) w → ∃ m', StR m' st'.sl (ofL st'.h) a w ∧ B.ev m' (ofL st'.h) w

theorem ConvS.refl (B : Base) (st : ASt) : ConvS B st st := fun m w a h e => ⟨m, h, e⟩
theorem ConvS.trans {B : Base} {s1 s2 s3 : ASt} (h1 : ConvS B s1 s2) (h2 : ConvS B s2 s3) : ConvS B s1 s3 := fun m w a h e =>
  let ⟨m', a1, b1⟩ := h1 m w a h e
  h2 m' w a a1 b1

open Classical in
noncomputable def Nm.turn (m : Nm) (b : Hp) (q : Rn) : Nm where
  pl := fun y => if b y ≠ .unused then m.pl y else if h : ∃ x, q.L x y then m.pl h.choose else (0, 0)
  set := fun y => if b y ≠ .unused then m.set y else fun g => (∃ x, q.I x y ∧ m.set x g) ∨ ∃ x, q.F x y ∧ g = (m.pl x).1

theorem Nm.turn_ok {m : Nm} {b h h' : Hp} {q : Rn} (hb : RnB b h h' q) : NmRen m (m.turn b q) h' q where
  pl := fun x y hxy => by
    unfold Nm.turn
    by_cases hy : b y = .unused
    · have hex : ∃ x, q.L x y := ⟨x, hxy⟩
      simp only [ne_eq, hy, not_true_eq_false, if_false, hex, dif_pos]
      rw [hb.ok.L1 x hex.choose y hxy hex.choose_spec]
    · simp only [ne_eq, hy, not_false_eq_true, if_true]
      rw [hb.L x y hxy hy]
  set := fun y g hi => by
    unfold Nm.turn
    by_cases hy : b y = .unused
    · simp only [ne_eq, hy, not_true_eq_false, if_false]
    · simp only [ne_eq, hy, not_false_eq_true, if_true]
      constructor
      · intro hg; exact .inl ⟨y, hb.Ib y hy hi, hg⟩
      · rintro (⟨x, hx, hg⟩ | ⟨x, hx, _⟩)
        · rw [hb.I x y hx hy] at hg; exact hg
        · exact absurd (hb.F x y hx) hy

theorem Ev.turn {m0 m : Nm} {b h h' : Hp} {w0 w : World} {q : Rn} (hb : RnB b h h' q) (rel : Rel m h w) (ev : Ev m0 b w0 m h w) : Ev m0 b w0 (m.turn b q) h' w := by
  have nm := Nm.turn_ok (m := m) hb
  have bpl : ∀ y, b y ≠ .unused → (m.turn b q).pl y = m.pl y := fun y hy => by simp [Nm.turn, hy]
  have bset : ∀ y, b y ≠ .unused → (m.turn b q).set y = m.set y := fun y hy => by simp [Nm.turn, hy]
  refine ⟨fun y hy => (bpl y hy).trans (ev.pl y hy), fun y hy => (bset y hy).trans (ev.set y hy), fun y => ?_, ev.size, ?_, ?_, ?_, ?_, ev.os, ev.tape, ev.output⟩
  · by_cases hy : b y = .unused
    · rw [hy]; trivial
    · exact Own.goes_trans (ev.kind y) (hb.kind y hy) (fun _ => Own.goes_used (ev.kind y) hy)
  · intro id k k' h1 h2 cur e f hc
    have hu : b id ≠ .unused := by rw [h1]; simp
    have hk := hb.kind id hu
    rw [h2] at hk
    cases hh : h id with
    | live k2 => exact ev.cells id k k2 h1 hh cur e f hc
    | unused => exact absurd hh (Own.goes_used (ev.kind id) hu)
    | dead => rw [hh] at hk; exact hk.elim
    | perm => rw [hh] at hk; exact hk.elim
    | uniq => rw [hh] at hk; exact hk.elim
  · intro g hg ho hu
    refine ev.frame g hg ho fun r hr hs => ?_
    have hru : b r ≠ .unused := by rw [hr]; simp
    have hk := hb.kind r hru
    rw [hu r hr hs] at hk
    cases hh : h r with
    | uniq => rfl
    | unused => exact absurd hh (Own.goes_used (ev.kind r) hru)
    | dead => rw [hh] at hk; exact hk.elim
    | perm => rw [hh] at hk; exact hk.elim
    | live k => rw [hh] at hk; exact hk.elim
  · intro id k h1 h2
    obtain ⟨x, k0, hL, hx, _⟩ := hb.ok.live id k h2
    rw [nm.pl x id hL]
    by_cases hbx : b x = .unused
    · rcases ev.new x k0 hbx hx with h | h | ⟨r, hr, hd, hs⟩
      · exact .inl h
      · exact .inr (.inl h)
      · refine .inr (.inr ⟨r, hr, ?_, hs⟩)
        have hk := hb.kind r (by rw [hr]; simp)
        rw [hd] at hk
        cases hh : h' r <;> rw [hh] at hk <;> first | rfl | exact hk.elim
    · rw [ev.pl x hbx]
      have hk := ev.kind x
      rw [hx] at hk
      cases hh : b x with
      | live kb => exact .inr (.inl ⟨x, kb, hh, rfl⟩)
      | unused => exact absurd hh hbx
      | dead => rw [hh] at hk; exact hk.elim
      | perm => rw [hh] at hk; exact hk.elim
      | uniq => rw [hh] at hk; exact hk.elim
  · intro r g h1 h2 hs
    rcases (nm.set r g (by rw [h2]; trivial)).1 hs with ⟨x, hI, hg⟩ | ⟨x, hF, hg⟩
    · have hxu := (hb.ok.I x r hI).2.2 h2
      by_cases hbx : b x = .unused
      · rcases ev.newU x g hbx hxu hg with h | h | ⟨r2, hr, hd, hs⟩
        · exact .inl h
        · exact .inr (.inl h)
        · refine .inr (.inr ⟨r2, hr, ?_, hs⟩)
          have hk := hb.kind r2 (by rw [hr]; simp)
          rw [hd] at hk
          cases hh : h' r2 <;> rw [hh] at hk <;> first | rfl | exact hk.elim
      · have hk := ev.kind x
        rw [hxu] at hk
        have hbu : b x = .uniq := by cases hh : b x <;> rw [hh] at hk <;> first | rfl | exact absurd hh hbx | exact hk.elim
        rw [ev.set x hbx] at hg
        exact .inr (.inr ⟨x, hbu, hb.newU x r hI h1 h2 hbx, hg⟩)
    · obtain ⟨⟨k0, hk0⟩, _⟩ := hb.ok.F x r hF
      by_cases hbx : b x = .unused
      · rw [hg]
        rcases ev.new x k0 hbx hk0 with h | h | ⟨r2, hr, hd, hs⟩
        · exact .inl h
        · exact .inr (.inl h)
        · refine .inr (.inr ⟨r2, hr, ?_, hs⟩)
          have hk := hb.kind r2 (by rw [hr]; simp)
          rw [hd] at hk
          cases hh : h' r2 <;> rw [hh] at hk <;> first | rfl | exact hk.elim
      · have hk := ev.kind x
        rw [hk0] at hk
        rw [hg, ev.pl x hbx]
        cases hh : b x with
        | live kb => exact .inr (.inl ⟨x, kb, hh, rfl⟩)
        | unused => exact absurd hh hbx
        | dead => rw [hh] at hk; exact hk.elim
        | perm => rw [hh] at hk; exact hk.elim
        | uniq => rw [hh] at hk; exact hk.elim

/-- slots under other names -/
def SlotsRen (q : Rn) (h : Hp) (sl sl' : List AV) : Prop := sl.length = sl'.length ∧ ∀ (i : Nat) (c c' : AV), sl[i]? = some c → sl'[i]? = some c' → Ren q h c c'

theorem ConvS.turn {B : Base} {sl sl' : List AV} {h h' : List Own} (q : Rn) (hb : RnB B.h (ofL h) (ofL h') q) (hs : SlotsRen q (ofL h) sl sl') : ConvS B ⟨sl, h⟩ ⟨sl', h'⟩ := by
  intro m w a st ev
  have nm := Nm.turn_ok (m := m) hb
  refine ⟨m.turn B.h q, ⟨st.rel.ren hb.ok nm, fun t => ?_, hs.1.symm.trans st.len, st.defers⟩, Ev.turn hb st.rel ev⟩
  have hR := st.slots t
  by_cases ht : t < sl.length
  · have e1 : sl.getD t (.val undef) = sl[t] := by simp [List.getD, ht]
    have e2 : sl'.getD t (.val undef) = sl'[t]'(by rw [← hs.1]; exact ht) := by simp [List.getD, show t < sl'.length by rw [← hs.1]; exact ht]
    simp only at hR ⊢
    rw [e1] at hR
    rw [e2]
    exact hR.ren st.rel (nm.cmp hb.ok) (hs.2 t _ _ (List.getElem?_eq_getElem ht) (List.getElem?_eq_getElem (by rw [← hs.1]; exact ht)))
  · have e1 : sl.getD t (.val undef) = .val undef := by simp [List.getD, ht]
    have e2 : sl'.getD t (.val undef) = .val undef := by simp [List.getD, show ¬ t < sl'.length by rw [← hs.1]; exact ht]
    simp only at hR ⊢
    rw [e1] at hR
    rw [e2, hR.val_inv]
    exact .val _

section
variable {P : Program} {B : Base}

theorem AW.conv {c : Code} {Q : AExit → ASt → Prop} {st st' : ASt} (hc : ConvS B st st') (h : AW P B c Q st') : AW P B c Q st := fun m w a hs ev => by
  obtain ⟨m', hs', ev'⟩ := hc m w a hs ev
  exact h m' w a hs' ev'

/-- A loop: at each round's head the state may be seen as one of a family; a measure goes down. -/
theorem AW_loop {X : Type} {body : Code} {Q : AExit → ASt → Prop} {st : ASt} (F : X → ASt) (μ : X → Nat) (x0 : X) (h0 : ConvS B st (F x0))
    (round : ∀ x, AW P B body (aThen (fun st' => ∃ y, ConvS B st' (F y) ∧ μ y < μ x) Q) (F x)) : AW P B (.loop body) Q st := by
  refine AW.conv h0 fun m w a hs ev => ?_
  refine wp_loop_rounds (μ x0 + 1) ?_
  have key : ∀ n x m w a, μ x < n → StR m (F x).sl (ofL (F x).h) a w → B.ev m (ofL (F x).h) w → Code.rounds P body (fun e a' w' => ∃ e' st' m', e = AExit.conc e' ∧ Q e' st' ∧ StR m' st'.sl (ofL st'.h) a' w' ∧ B.ev m' (ofL st'.h) w') n a w := by
    intro n
    induction n with
    | zero => intro x m w a h; omega
    | succ n ih =>
      intro x m w a hlt hs ev
      rw [rounds_succ]
      refine wp_mono (round x m w a hs ev) ?_
      rintro e a' w' ⟨e', st', m', rfl, hq, hs', ev'⟩
      cases e' with
      | normal =>
        obtain ⟨y, hy, hm⟩ := hq
        obtain ⟨m2, hs2, ev2⟩ := hy m' w' a' hs' ev'
        exact ih y m2 w' a' (by omega) hs2 ev2
      | exit id => exact ⟨.exit id, st', m', rfl, hq, hs', ev'⟩
      | goto l => exact ⟨.goto l, st', m', rfl, hq, hs', ev'⟩
      | ret => exact ⟨.ret, st', m', rfl, hq, hs', ev'⟩
  exact key _ x0 m w a (by omega) hs ev

/-- where a goto of the scope leads -/
def aJump (B : Base) (body : Code) {X : Type} (lab : X → Nat) (F : X → ASt) (ok : X → Prop) (Q : AExit → ASt → Prop) : AExit → ASt → Prop
  | .goto l, st => (∃ y, lab y = l ∧ ok y ∧ ConvS B st (F y)) ∨ (findLabel body l = none ∧ Q (.goto l) st)
  | e, st => Q e st
@[go_sem ↓] theorem aJump_normal (body X lab F ok Q st) : aJump (X := X) B body lab F ok Q .normal st = Q .normal st := rfl
@[go_sem ↓] theorem aJump_ret (body X lab F ok Q st) : aJump (X := X) B body lab F ok Q .ret st = Q .ret st := rfl
@[go_sem ↓] theorem aJump_exit (body X lab F ok Q st id) : aJump (X := X) B body lab F ok Q (.exit id) st = Q (.exit id) st := rfl

theorem AW_scope {X : Type} {body : Code} {Q : AExit → ASt → Prop} {st : ASt} (lab : X → Nat) (F : X → ASt) (μ : X → Nat) (hl : ∀ x, (findLabel body (lab x)).isSome = true)
    (first : AW P B body (aJump B body lab F (fun _ => True) Q) st) (pass : ∀ x rest, findLabel body (lab x) = some rest → AW P B rest (aJump B body lab F (fun y => μ y < μ x) Q) (F x)) : AW P B (.scope body) Q st := by
  intro m w a hs ev b k cs
  have hg : ∀ l rest, findLabel body l = some rest → gotoIn l (.inScope body :: k) = some (.code rest :: .inScope body :: k) := fun l rest hf => by simp [gotoIn, hf]
  have hn : ∀ l k', findLabel body l = none → gotoIn l k = some k' → gotoIn l (.inScope body :: k) = some k' := fun l k' hf hk => by simp [gotoIn, hf, hk]
  have key : ∀ n x, μ x = n → ∀ (m : Nm) (w : World) (a : Act) (rest : Code), findLabel body (lab x) = some rest → StR m (F x).sl (ofL (F x).h) a w → B.ev m (ofL (F x).h) w →
      ∃ e a' w', (∃ e' st' m', e = AExit.conc e' ∧ Q e' st' ∧ StR m' st'.sl (ofL st'.h) a' w' ∧ B.ev m' (ofL st'.h) w') ∧ Arrives P (lone (b.at a (.code rest :: .inScope body :: k)) cs w) b k cs e a' w' := by
    intro n
    induction n using Nat.strongRecOn with
    | _ n ih =>
      intro x hx m w a rest hf hs ev
      obtain ⟨e, a₁, w₁, ⟨e', st', m', rfl, hq, hs', ev'⟩, harr⟩ := pass x rest hf m w a hs ev b (.inScope body :: k) cs
      cases e' with
      | normal => exact ⟨.normal, a₁, w₁, ⟨.normal, st', m', rfl, hq, hs', ev'⟩, Steps.trans harr (.one step_inScope)⟩
      | exit id => exact ⟨.exit id, a₁, w₁, ⟨.exit id, st', m', rfl, hq, hs', ev'⟩, fun k' hk => harr k' (by simp [exitTo, hk])⟩
      | ret => exact ⟨_, a₁, w₁, ⟨.ret, st', m', rfl, hq, hs', ev'⟩, harr⟩
      | goto l =>
        rcases hq with ⟨y, hy, hlt, hcv⟩ | ⟨hnone, hq⟩
        · obtain ⟨m2, hs2, ev2⟩ := hcv m' w₁ a₁ hs' ev'
          obtain ⟨r2, hr2⟩ := Option.isSome_iff_exists.1 (hl y)
          obtain ⟨e2, a₂, w₂, hq₂, harr₂⟩ := ih _ (by omega) y rfl m2 w₁ a₁ r2 hr2 hs2 ev2
          subst hy
          exact ⟨e2, a₂, w₂, hq₂, .of_steps (harr _ (hg _ r2 hr2)) harr₂⟩
        · exact ⟨.goto l, a₁, w₁, ⟨.goto l, st', m', rfl, hq, hs', ev'⟩, fun k' hk => harr k' (hn l k' hnone hk)⟩
  obtain ⟨e, a₁, w₁, ⟨e', st', m', rfl, hq, hs', ev'⟩, harr⟩ := first m w a hs ev b (.inScope body :: k) cs
  cases e' with
  | normal => exact ⟨.normal, a₁, w₁, ⟨.normal, st', m', rfl, hq, hs', ev'⟩, .head step_scope (Steps.trans harr (.one step_inScope))⟩
  | exit id => exact ⟨.exit id, a₁, w₁, ⟨.exit id, st', m', rfl, hq, hs', ev'⟩, fun k' hk => .head step_scope (harr k' (by simp [exitTo, hk]))⟩
  | ret => exact ⟨_, a₁, w₁, ⟨.ret, st', m', rfl, hq, hs', ev'⟩, .of_steps (.one step_scope) harr⟩
  | goto l =>
    rcases hq with ⟨y, hy, _, hcv⟩ | ⟨hnone, hq⟩
    · obtain ⟨m2, hs2, ev2⟩ := hcv m' w₁ a₁ hs' ev'
      obtain ⟨r2, hr2⟩ := Option.isSome_iff_exists.1 (hl y)
      obtain ⟨e2, a₂, w₂, hq₂, harr₂⟩ := key _ y rfl m2 w₁ a₁ r2 hr2 hs2 ev2
      subst hy
      exact ⟨e2, a₂, w₂, hq₂, .of_steps (.head step_scope (harr _ (hg _ r2 hr2))) harr₂⟩
    · exact ⟨.goto l, a₁, w₁, ⟨.goto l, st', m', rfl, hq, hs', ev'⟩, fun k' hk => .head step_scope (harr k' (hn l k' hnone hk))⟩
end
end Go.Proofs.Ytjmjnndmpeeppaa

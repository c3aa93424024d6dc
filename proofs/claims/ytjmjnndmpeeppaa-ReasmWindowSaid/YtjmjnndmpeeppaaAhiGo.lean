/- Calls and loops met while code on data is reckoned. No condition. -/
import Derived.Test.YtjmjnndmpeeppaaAhiTo
namespace Go.Proofs.Ytjmjnndmpeeppaa
open Go.RowKit
set_option linter.unusedVariables false
set_option linter.unusedSimpArgs false

def Prs.swap (l : Prs) : Prs := l.map fun p => (p.2, p.1)
theorem Prs.mem_swap {l : Prs} {x y : Nat} : (x, y) ∈ l.swap ↔ (y, x) ∈ l := by
  simp only [Prs.swap, List.mem_map, Prod.mk.injEq, Prod.exists]
  constructor
  · rintro ⟨a, b, h, rfl, rfl⟩; exact h
  · intro h; exact ⟨y, x, h, rfl, rfl⟩
theorem qOf_swap (own imm bor : Prs) : qOf own.swap imm.swap bor.swap = qIn own imm bor := by
  simp only [qOf, qIn, Prs.mem_swap, List.not_mem_nil]

theorem rnOk_of {h h' : List Own} {L I F : Prs} (hk : kindsB [] h h' L I F = true) (hrows : ∀ p ∈ L, ∀ k k', ofL h p.1 = .live k → ofL h' p.2 = .live k' → RowsRen (qOf L I F) (ofL h) k.rows k'.rows) : RnOk (ofL h) (ofL h') (qOf L I F) := by
  simp only [kindsB, Bool.and_eq_true] at hk
  obtain ⟨⟨⟨⟨k1, k2⟩, k3⟩, k4⟩, k5⟩ := hk
  have k1 := allN_i k1
  rw [List.all_eq_true] at k2 k3 k4
  have hL : ∀ p ∈ L, ∃ k k', ofL h p.1 = .live k ∧ ofL h' p.2 = .live k' ∧ k'.sz = k.sz ∧ k'.elem = k.elem := fun p hp => by
    have := k2 p hp
    simp only [Bool.and_eq_true] at this
    have := this.1.1.1
    split at this
    · rename_i k k' e1 e2
      simp only [Bool.and_eq_true, Nat.beq_eq] at this
      exact ⟨k, k', e1, e2, this.1, this.2⟩
    · cases this
  have hL2 : ∀ p ∈ L, (∀ q ∈ L, imp (Nat.beq p.2 q.2) (Nat.beq p.1 q.1) = true ∧ imp (Nat.beq p.1 q.1) (Nat.beq p.2 q.2) = true) ∧ ∀ q ∈ F, q.1 ≠ p.1 := fun p hp => by
    have := k2 p hp
    simp only [Bool.and_eq_true, List.all_eq_true] at this
    refine ⟨fun q hq => this.1.2 q hq, fun q hq e => ?_⟩
    have := this.2 q hq
    rw [e] at this
    simp at this
  have hI := fun p hp => by
    have := k3 p hp
    simp only [Bool.and_eq_true] at this
    exact this
  have hF := fun p hp => by
    have := k4 p hp
    simp only [Bool.and_eq_true] at this
    exact this
  have beq : ∀ {x y : Nat}, x = y → Nat.beq x y = true := fun e => by subst e; simp
  refine ⟨?_, ?_, ?_, ?_, ?_, ?_, ?_, ?_, ?_⟩
  · intro y k' hy
    have := imp_i (k1 y (ofL_lt hy)) (by rw [hy]; rfl)
    rw [List.any_eq_true] at this
    obtain ⟨p, hp, e⟩ := this
    have e : p.2 = y := by simpa using e
    subst e
    obtain ⟨k, k2', e1, e2, e3, e4⟩ := hL p hp
    rw [hy] at e2; cases e2
    exact ⟨p.1, k, hp, e1, e3, e4, hrows p hp k k' e1 hy⟩
  · intro x y hxy
    obtain ⟨k, k', e1, e2, _⟩ := hL _ hxy
    exact ⟨k, k', e1, e2⟩
  · intro x x' y h1 h2
    have := imp_i ((hL2 _ h1).1 _ h2).1 (beq rfl)
    simpa using this
  · intro x y y' h1 h2
    have := imp_i ((hL2 _ h1).1 _ h2).2 (beq rfl)
    simpa using this
  · intro x y hxy
    obtain ⟨⟨⟨⟨⟨a1, a2⟩, a3⟩, _⟩, _⟩, _⟩ := hI _ hxy
    exact ⟨isImm_iff.1 a1, isImm_iff.1 a2, fun hu => isUniq_iff.1 (imp_i a3 (isUniq_iff.2 hu))⟩
  · intro x y y' h1 h2 hu
    obtain ⟨_, a6⟩ := hI _ h1
    have := imp_i a6 (isUniq_iff.2 hu)
    rw [List.all_eq_true] at this
    simpa using imp_i (this _ h2) (beq rfl)
  · intro x y hxy
    obtain ⟨⟨⟨a1, a2⟩, a3⟩, a4⟩ := hF _ hxy
    exact ⟨isLive_i a1, isImm_iff.1 a2⟩
  · intro x y y' h1 h2 hu
    obtain ⟨⟨⟨a1, a2⟩, a3⟩, a4⟩ := hF _ h1
    have := imp_i a4 (isUniq_iff.2 hu)
    rw [List.all_eq_true] at this
    simpa using imp_i (this _ h2) (beq rfl)
  · intro x y y' h1 h2
    exact (hL2 _ h2).2 _ h1 rfl

/-! ### calls -/

def look : List (Nat × Own) → Nat → Own
  | [], _ => .unused
  | (n, o) :: T, x => if Nat.beq n x then o else look T x
def sameImm : Own → Own → Bool
  | .perm, .perm => true
  | .uniq, .uniq => true
  | _, _ => false
/-- a block behind a call: kinds -/
def aftB (fresh : Bool) : Own → Own → Bool
  | .live k, .live k' => Nat.beq k'.sz k.sz && Nat.beq k'.elem k.elem
  | .dead, .dead => !fresh
  | .uniq, .uniq => fresh
  | _, _ => false
def aftE (q : Rn) (L1 : List Own) (T : List (Nat × Own)) : Prs → Prop → Prop
  | [], K => K
  | (k, x) :: l, K => match ofL L1 k, look T x with
    | .live b, .live b' => RowsRen q (ofL L1) b.rows b'.rows ∧ aftE q L1 T l K
    | _, _ => aftE q L1 T l K
theorem aftE_ok {q : Rn} {L1 : List Own} {T : List (Nat × Own)} : ∀ {l : Prs} {K : Prop}, aftE q L1 T l K → (∀ p ∈ l, ∀ b b', ofL L1 p.1 = .live b → look T p.2 = .live b' → RowsRen q (ofL L1) b.rows b'.rows) ∧ K
  | [], K, H => ⟨by simp, H⟩
  | (k, x) :: l, K, H => by
    unfold aftE at H
    split at H
    · rename_i b b' h1 h2
      obtain ⟨H1, H2⟩ := H
      obtain ⟨h3, h4⟩ := aftE_ok H2
      refine ⟨fun p hp a c e1 e2 => ?_, h4⟩
      rcases List.mem_cons.1 hp with rfl | hp
      · simp only at e1 e2
        rw [h1] at e1; rw [h2] at e2; cases e1; cases e2; exact H1
      · exact h3 p hp a c e1 e2
    · rename_i hno
      obtain ⟨h3, h4⟩ := aftE_ok H
      refine ⟨fun p hp a c e1 e2 => ?_, h4⟩
      rcases List.mem_cons.1 hp with rfl | hp
      · exact (hno _ _ e1 e2).elim
      · exact h3 p hp a c e1 e2
def fitB : Nat → List Nat → Bool
  | _, [] => true
  | n, x :: T => Nat.ble x n && fitB (if Nat.ble (x + 1) n then n else n + 1) T
theorem fitB_ok : ∀ {T : List (Nat × Own)} {h : List Own}, fitB h.length (T.map (·.1)) = true → fitT h T
  | [], _, _ => trivial
  | (x, o) :: T, h, H => by
    simp only [List.map_cons, fitB, Bool.and_eq_true, Nat.ble_eq] at H
    refine ⟨H.1, fitB_ok ?_⟩
    have : (setO h x o).length = if x + 1 ≤ h.length then h.length else h.length + 1 := by
      unfold setO
      by_cases hx : x < h.length
      · rw [if_pos hx, if_pos (by omega)]; simp
      · rw [if_neg hx, if_neg (by omega)]; simp
    rw [this]
    exact H.2

def eatOf (L1 : List Own) (imm : Prs) : Prs := imm.filter fun p => (ofL L1 p.1).isDead
def callB (L0 L1 h : List Own) (own imm bor fr : Prs) (T : List (Nat × Own)) : Bool :=
  kindsB [] h L0 own.swap imm.swap bor.swap &&
  allN L0.length (fun k => imp (ofL L0 k).isImm (sameImm (ofL L1 k) (ofL L0 k) || ((ofL L0 k).isUniq && (ofL L1 k).isDead))) &&
  fr.all (fun p => !(ofL L0 p.1).isUsed && !(ofL h p.2).isUsed && fr.all fun q => imp (Nat.beq p.2 q.2) (Nat.beq p.1 q.1) && imp (Nat.beq p.1 q.1) (Nat.beq p.2 q.2)) &&
  own.all (fun p => aftB false (ofL L1 p.1) (look T p.2)) && fr.all (fun p => aftB true (ofL L1 p.1) (look T p.2)) && fitB h.length (own.map (·.2) ++ (eatOf L1 imm).map (·.2) ++ fr.map (·.2)) &&
  bor.all (fun p => sameImm (ofL L0 p.1) .perm) && (eatOf L1 imm).all fun p => (look T p.2).isDead

/-- the renaming of a call's end, by reckoning: which names of the callee are which of the caller's -/
def outL (L1 : List Own) (own fr : Prs) : Prs := (own ++ fr).filter fun p => (ofL L1 p.1).isLive
def outI (L1 : List Own) (imm bor fr : Prs) : Prs := (fr.filter fun p => (ofL L1 p.1).isUniq) ++ imm.filter fun p => (ofL L1 p.1).isImm && (imm.all fun q => imp (Nat.beq p.1 q.1) (Nat.beq p.2 q.2)) && bor.all fun q => !Nat.beq p.1 q.1
theorem qOut_of (L1 : List Own) (own imm bor fr : Prs) : qOf (outL L1 own fr) (outI L1 imm bor fr) [] = qOut (ofL L1) own imm bor fr := by
  unfold qOf qOut
  congr 1
  · funext x y
    simp only [outL, List.mem_filter, List.mem_append]
    refine propext ⟨fun ⟨a, b⟩ => ⟨a, isLive_i b⟩, fun ⟨a, k, hk⟩ => ⟨a, by rw [hk]; rfl⟩⟩
  · funext x y
    simp only [outI, List.mem_filter, List.mem_append, List.all_eq_true, Bool.and_eq_true]
    refine propext ⟨?_, ?_⟩
    · rintro (⟨a, b⟩ | ⟨a, ⟨c, b⟩, d⟩)
      · exact .inl ⟨a, isUniq_iff.1 b⟩
      · refine .inr ⟨a, fun x' hx' => by have := imp_i (b (x, x') hx') (by simp); simp at this; exact this.symm, fun x' hx' => ?_, isImm_iff.1 c⟩
        have := d (x, x') hx'
        simp at this
    · rintro (⟨a, b⟩ | ⟨a, b, d, c⟩)
      · exact .inl ⟨a, isUniq_iff.2 b⟩
      · refine .inr ⟨a, ⟨isImm_iff.2 c, fun q hq => ?_⟩, fun q hq => ?_⟩
        · by_cases e : x = q.1
          · have : q.2 = y := b q.2 (by rw [e]; exact hq)
            simp [imp, this]
          · have : Nat.beq x q.1 = false := by
              cases hb : Nat.beq x q.1 with
              | false => rfl
              | true => exact absurd (by simpa using hb) e
            simp [imp, this]
        · cases hb : Nat.beq x q.1 with
          | false => rfl
          | true =>
            have e : x = q.1 := by simpa using hb
            exact absurd (by rw [e]; exact hq) (d q.2)
  · funext x y
    simp
section
variable {P : Program}

theorem qCall.of {f : FuncId} {args : List AV} {L0 L1 : List Own} {res : AV} (H : ACallL P f args L0 res L1) (own imm bor fr : Prs) (T : List (Nat × Own)) (res' : AV) {aa : List AV} {h : List Own} {K : AV → List Nat → List Nat → List Own → Prop}
    (hk : callB L0 L1 h own imm bor fr T = true)
    (hq : avsE own.swap imm.swap bor.swap h aa args (rowsE (qOf own.swap imm.swap bor.swap) h L0 own.swap (aftE (qOf (outL L1 own fr) (outI L1 imm bor fr) []) L1 T own (aftE (qOf (outL L1 own fr) (outI L1 imm bor fr) []) L1 T fr
      (av2E (outL L1 own fr) (outI L1 imm bor fr) [] L1 res res' (frcNs (own.map (·.2) ++ imm.map (·.2) ++ bor.map (·.2) ++ fr.map (·.2)) fun rd => frcNs (own.map (·.2) ++ (eatOf L1 imm).map (·.2) ++ fr.map (·.2)) fun wr => frcTs (wr.map fun x => (x, look T x)) fun T => frcL (apE h T) fun h' => frcW res' fun res' => K res' rd wr h')))))) : qCall P f aa h K := by
  obtain ⟨hargs, hq⟩ := avsE_ok hq
  obtain ⟨hrows, hq⟩ := rowsE_ok hq
  obtain ⟨hown, hq⟩ := aftE_ok hq
  obtain ⟨hfr, hq⟩ := aftE_ok hq
  obtain ⟨hres, hq⟩ := av2E_ok hq
  simp only [frcL_eq, frcNs_eq, frcTs_eq, apE_eq, frcW_eq] at hq
  simp only [callB, Bool.and_eq_true] at hk
  obtain ⟨⟨⟨⟨⟨⟨⟨k0, k1⟩, k2⟩, k3⟩, k4⟩, k5⟩, k6⟩, k7⟩ := hk
  have okq := rnOk_of k0 hrows
  rw [qOf_swap] at okq hargs
  rw [qOut_of] at hown hfr hres
  rw [List.all_eq_true] at k2 k3 k4 k6 k7
  have k2' := fun p hp => by
    have := k2 p hp
    simp only [Bool.and_eq_true, List.all_eq_true, Bool.not_eq_true'] at this
    exact this
  have pm : ∀ k, (ofL L0 k).imm → ofL L1 k = ofL L0 k ∨ (ofL L0 k = .uniq ∧ ofL L1 k = .dead) := fun k hi => by
    have hu : k < L0.length := ofL_used (isUsed_iff.2 (by intro e; rw [e] at hi; exact hi))
    have := imp_i (allN_i k1 k hu) (isImm_iff.2 hi)
    cases e1 : ofL L1 k <;> cases e2 : ofL L0 k <;> rw [e1, e2] at this <;> first | exact .inl rfl | exact .inr ⟨rfl, rfl⟩ | cases this
  have cf : CallFit (ofL L0) (ofL L1) (ofL h) (look T) own imm bor (eatOf L1 imm) fr := by
    refine ⟨okq, pm, fun k x hx => ?_, fun k x hx => ?_, fun k x hx h0 h1 => ?_, fun k x hx => ?_, fun k k' x h1 h2 => ?_, fun k x x' h1 h2 => ?_, fun k x hx => ?_, fun k x hx => ?_⟩
    · have := k6 _ hx
      cases e1 : ofL L0 k <;> rw [e1] at this <;> first | rfl | cases this
    · have h7 := k7 _ hx
      simp only [eatOf, List.mem_filter] at hx
      have hd := isDead_iff.1 hx.2
      refine ⟨hx.1, ?_, hd, isDead_iff.1 h7⟩
      rcases pm k (okq.I x k hx.1).2.1 with e | ⟨e, _⟩
      · have := (okq.I x k hx.1).2.1
        rw [hd] at e
        rw [← e] at this; exact this.elim
      · exact e
    · simp only [eatOf, List.mem_filter]
      exact ⟨hx, isDead_iff.2 h1⟩
    · have := k2' _ hx
      exact ⟨isUsed_f.1 this.1.1, isUsed_f.1 this.1.2⟩
    · have := imp_i ((k2' _ h1).2 _ h2).1 (by simp)
      simpa using this
    · have := imp_i ((k2' _ h1).2 _ h2).2 (by simp)
      simpa using this
    · have := k3 _ hx
      have hr := hown _ hx
      cases e1 : ofL L1 k <;> cases e2 : look T x <;> simp only [e1, e2, aftB] at this <;> first | (cases this; done) | skip
      · exact .inr ⟨rfl, rfl⟩
      · rename_i b b'
        simp only [Bool.and_eq_true, Nat.beq_eq] at this
        exact .inl ⟨b, b', rfl, rfl, this.1, this.2, hr b b' e1 e2⟩
    · have := k4 _ hx
      have hr := hfr _ hx
      cases e1 : ofL L1 k <;> cases e2 : look T x <;> simp only [e1, e2, aftB] at this <;> first | (cases this; done) | skip
      · rename_i b b'
        simp only [Bool.and_eq_true, Nat.beq_eq] at this
        exact .inl ⟨b, b', rfl, rfl, this.1, this.2, hr b b' e1 e2⟩
      · exact .inr ⟨rfl, rfl⟩
  unfold qCall
  refine ⟨_, _, res', ACall.of H cf hargs hres, ⟨?_, ?_⟩, ?_⟩
  · intro q hq
    simp only [List.mem_append, List.mem_map] at hq
    rcases hq with ((⟨p, hp, rfl⟩ | ⟨p, hp, rfl⟩) | ⟨p, hp, rfl⟩) | ⟨p, hp, rfl⟩
    · rfl
    · rfl
    · rfl
    · exact isUsed_f.1 (k2' _ hp).1.2
  · refine fitB_ok ?_
    rw [List.map_map]
    have : ((fun x : Nat × Own => x.1) ∘ fun x => (x, look T x)) = id := by funext x; rfl
    rw [this, List.map_id]
    exact k5
  · simp only [List.map_append, List.map_map] at hq ⊢
    exact hq

/-- a call that only computes, of numbers -/
theorem qCall.pure {f : FuncId} {args : List AV} {res : AV} (H : ACallL P f args [.perm] res [.perm]) {h : List Own} {K : AV → List Nat → List Nat → List Own → Prop} (h0 : qTrue (sameImm (ofL h 0) .perm) True) (ha : ∀ c ∈ args, Pl c) (hr : Pl res) (hq : frcW res fun res => K res [0] [] h) : qCall P f args h K := by
  have h1 : sameImm (ofL h 0) .perm = true := (qTrue_i h0).1
  have h2 : ofL h 0 = .perm := by cases e : ofL h 0 <;> rw [e] at h1 <;> first | rfl | cases h1
  have hlen : 0 < h.length := ofL_used (by rw [h2]; rfl)
  unfold qCall
  have okq : RnOk (ofL h) (ofL [.perm]) (qIn [] [(0, 0)] []) := by
    refine ⟨fun y k' hy => ?_, ?_, ?_, ?_, ?_, ?_, ?_, ?_, ?_⟩ <;> try (intros; simp_all [qIn]; done)
    · exfalso; cases y <;> simp [ofL, List.getD] at hy
    · intro x y hxy
      simp [qIn] at hxy
      obtain ⟨rfl, rfl⟩ := hxy
      rw [h2]
      exact ⟨trivial, trivial, fun e => by cases e⟩
  have cf : CallFit (ofL [.perm]) (ofL [.perm]) (ofL h) (fun _ => .unused) [] [(0, 0)] [] [] [] := ⟨okq, fun _ _ => .inl rfl, by simp, by simp, fun k x _ h0 h1 => (by rw [h0] at h1; cases h1), by simp, by simp, by simp, by simp, by simp⟩
  rw [frcW_eq] at hq
  refine ⟨_, _, res, ACall.of H cf ⟨rfl, fun i c c' a b => by rw [a] at b; cases b; exact (ha c (List.mem_of_getElem? a)).ren (by simp [qIn])⟩ (hr.ren ?_), ⟨?_, trivial⟩, hq⟩
  · exact .inr ⟨by simp, fun x' hx' => by simpa using hx', by simp, by simp [ofL, List.getD, Own.imm]⟩
  · intro q hq
    simp at hq
    subst hq
    rfl

/-! ### loops, labels -/
theorem qAW.loop (hm : P.follows .mixedOrders = true) {B : Base} {X : Type} {body : Code} {Q : AExit → List AV → List Own → Prop} {sl : List AV} {h : List Own} (F : X → List AV) (G : X → List Own) (I : X → Prop) (μ : X → Nat) (x0 : X) (hI : I x0) (h0 : qConv B sl h (F x0) (G x0))
    (round : ∀ x, I x → frcVV (F x) fun sl => frcOs (G x) fun h => ev P B body (fun e sl h => match e with | .normal => ∃ y, I y ∧ μ y < μ x ∧ qConv B sl h (F y) (G y) | e => Q e sl h) sl h) : qAW P B (.loop body) Q sl h := by
  unfold qAW
  unfold qConv at h0 round
  refine AW_loop (P := P) (X := { x : X // I x }) (fun x => ⟨F x.1, G x.1⟩) (fun x => μ x.1) ⟨x0, hI⟩ h0 fun x => AW.mono (awp_sound hm _ _ ⟨_, _⟩ (ev_awp _ _ _ _ (by have := round x.1 x.2; simp only [frcVV_eq, frcOs_eq] at this; exact this))) fun e st H => ?_
  cases e with
  | normal =>
    obtain ⟨y, h1, h2, h3⟩ := H
    exact ⟨⟨y, h1⟩, h3, h2⟩
  | exit id => exact H
  | goto l => exact H
  | ret => exact H
theorem qAW.scope (hm : P.follows .mixedOrders = true) {B : Base} {X : Type} {body : Code} {Q : AExit → List AV → List Own → Prop} {sl : List AV} {h : List Own} (lab : X → Nat) (F : X → List AV) (G : X → List Own) (μ : X → Nat) (hl : ∀ x, (findLabel body (lab x)).isSome = true)
    (first : ev P B body (fun e sl h => match e with | .goto l => (match findLabel body l with | none => Q (.goto l) sl h | some _ => ∃ y, lab y = l ∧ qConv B sl h (F y) (G y)) | e => Q e sl h) sl h)
    (pass : ∀ x, match findLabel body (lab x) with | none => True | some rest => ev P B rest (fun e sl h => match e with | .goto l => (match findLabel body l with | none => Q (.goto l) sl h | some _ => ∃ y, lab y = l ∧ qConv B sl h (F y) (G y) ∧ μ y < μ x) | e => Q e sl h) (F x) (G x)) : qAW P B (.scope body) Q sl h := by
  unfold qAW
  unfold qConv at first pass
  refine AW_scope (P := P) lab (fun x => ⟨F x, G x⟩) μ hl (AW.mono (awp_sound hm _ _ ⟨_, _⟩ (ev_awp _ _ _ _ first)) fun e st H => ?_) fun x rest hr => ?_
  · cases e with
    | normal => exact H
    | exit id => exact H
    | ret => exact H
    | goto l =>
      simp only at H
      cases hf : findLabel body l with
      | none => rw [hf] at H; exact .inr ⟨hf, H⟩
      | some r =>
        rw [hf] at H
        obtain ⟨y, h1, h2⟩ := H
        exact .inl ⟨y, h1, trivial, h2⟩
  · have hp := pass x
    rw [hr] at hp
    refine AW.mono (awp_sound hm _ _ ⟨_, _⟩ (ev_awp _ _ _ _ hp)) fun e st H => ?_
    cases e with
    | normal => exact H
    | exit id => exact H
    | ret => exact H
    | goto l =>
      simp only at H
      cases hf : findLabel body l with
      | none => rw [hf] at H; exact .inr ⟨hf, H⟩
      | some r =>
        rw [hf] at H
        obtain ⟨y, h1, h2, h3⟩ := H
        exact .inl ⟨y, h1, h3, h2⟩

/-- what follows a goto within a scope, for so many gotos -/
def jumpN (P : Program) (B : Base) (body : Code) (Q : AExit → List AV → List Own → Prop) : Nat → AExit → List AV → List Own → Prop
  | 0, .goto l, sl, h => (match findLabel body l with | none => Q (.goto l) sl h | some _ => False)
  | n + 1, .goto l, sl, h => (match findLabel body l with | none => Q (.goto l) sl h | some rest => ev P B rest (jumpN P B body Q n) sl h)
  | _, .normal, sl, h => Q .normal sl h
  | _, .ret, sl, h => Q .ret sl h
  | _, .exit id, sl, h => Q (.exit id) sl h
theorem qAW.jump (hm : P.follows .mixedOrders = true) (n : Nat) {B : Base} {body : Code} {Q : AExit → List AV → List Own → Prop} {sl : List AV} {h : List Own} (first : ev P B body (jumpN P B body Q n) sl h) : qAW P B (.scope body) Q sl h := by
  let X := { p : Nat × Nat × ASt // ∃ rest, findLabel body p.2.1 = some rest ∧ ev P B rest (jumpN P B body Q p.1) p.2.2.sl p.2.2.h }
  have step : ∀ (n : Nat) (e : AExit) (st : ASt), jumpN P B body Q n e st.sl st.h → aJump B body (fun x : X => x.1.2.1) (fun x => x.1.2.2) (fun y => y.1.1 < n) (fun e st => Q e st.sl st.h) e st := by
    intro n e st H
    cases e with
    | normal => cases n <;> exact H
    | ret => cases n <;> exact H
    | exit id => cases n <;> exact H
    | goto l =>
      cases hf : findLabel body l with
      | none => refine .inr ⟨hf, ?_⟩; cases n <;> (simp only [jumpN, hf] at H; exact H)
      | some rest =>
        cases n with
        | zero => simp only [jumpN, hf] at H
        | succ n =>
          simp only [jumpN, hf] at H
          exact .inl ⟨⟨(n, l, st), rest, hf, H⟩, rfl, Nat.lt_succ_self n, ConvS.refl B st⟩
  unfold qAW
  refine AW_scope (P := P) (X := X) (fun x => x.1.2.1) (fun x => x.1.2.2) (fun x => x.1.1) (fun x => by obtain ⟨p, rest, h1, h2⟩ := x; simp [h1]) (AW.mono (awp_sound hm _ _ ⟨_, _⟩ (ev_awp _ _ _ _ first)) fun e st H => ?_) fun x rest hr => ?_
  · have := step n e st H
    cases e with
    | normal => exact this
    | ret => exact this
    | exit id => exact this
    | goto l =>
      rcases this with ⟨y, h1, h2, h3⟩ | h
      · exact .inl ⟨y, h1, trivial, h3⟩
      · exact .inr h
  · obtain ⟨⟨n, l, st⟩, rest', h1, h2⟩ := x
    simp only at h1 h2 hr
    rw [h1] at hr
    cases hr
    exact AW.mono (awp_sound hm _ _ st (ev_awp _ _ _ _ h2)) fun e st H => step n e st H
end
end Go.Proofs.Ytjmjnndmpeeppaa

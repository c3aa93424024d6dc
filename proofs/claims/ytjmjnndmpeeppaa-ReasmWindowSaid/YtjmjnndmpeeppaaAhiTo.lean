/- A state on data seen as another: what is to be checked, by reckoning. No condition. -/
import Derived.Test.YtjmjnndmpeeppaaAhiEv
namespace Go.Proofs.Ytjmjnndmpeeppaa
open Go.RowKit
set_option linter.unusedVariables false
set_option linter.unusedSimpArgs false

abbrev Prs := List (Nat × Nat)
def Prs.has : Prs → Nat → Nat → Bool
  | [], _, _ => false
  | (a, b) :: l, x, y => (Nat.beq a x && Nat.beq b y) || Prs.has l x y
theorem Prs.has_iff : ∀ (l : Prs) (x y : Nat), l.has x y = true ↔ (x, y) ∈ l
  | [], x, y => by simp [Prs.has]
  | (a, b) :: l, x, y => by
    simp only [Prs.has, Bool.or_eq_true, Bool.and_eq_true, Nat.beq_eq, Prs.has_iff l, List.mem_cons, Prod.mk.injEq]
    constructor
    · rintro (⟨rfl, rfl⟩ | h)
      · exact .inl ⟨rfl, rfl⟩
      · exact .inr h
    · rintro (⟨rfl, rfl⟩ | h)
      · exact .inl ⟨rfl, rfl⟩
      · exact .inr h
def qOf (L I F : Prs) : Rn := ⟨fun x y => (x, y) ∈ L, fun x y => (x, y) ∈ I, fun x y => (x, y) ∈ F⟩

/-- data that no name is in, but that of the memory that was there ahead -/
inductive Pl : AV → Prop
  | any : Pl .any
  | val (v : Value) : Pl (.val v)
  | agg (cs : List AV) (h : ∀ c ∈ cs, Pl c) : Pl (.agg cs)
  | tup (cs : List AV) (h : ∀ c ∈ cs, Pl c) : Pl (.tup cs)
  | list (sz : Nat) (rows : List (List AV)) (h : ∀ row ∈ rows, ∀ c ∈ row, Pl c) : Pl (.list 0 sz rows)
  | lptr (row : List AV) (j : Nat) (h : ∀ c ∈ row, Pl c) : Pl (.lptr 0 row j)
theorem Pl.ren {q : Rn} {h : Hp} (h0 : q.I 0 0) {c : AV} (hp : Pl c) : Ren q h c c := by
  induction hp with
  | any => exact .any _
  | val v => exact .val v
  | agg cs hc ih => exact .agg _ _ rfl fun i c c' a b => by rw [a] at b; cases b; exact ih c (List.mem_of_getElem? a)
  | tup cs hc ih => exact .tup _ _ rfl fun i c c' a b => by rw [a] at b; cases b; exact ih c (List.mem_of_getElem? a)
  | list sz rows hc ih =>
    refine .list 0 0 sz _ _ h0 rfl (fun i row row' a b => by rw [a] at b; cases b; rfl) fun i j row row' c c' a b d e => ?_
    rw [a] at b; cases b
    rw [d] at e; cases e
    exact ih row (List.mem_of_getElem? a) c (List.mem_of_getElem? d)
  | lptr row j hc ih => exact .lptr 0 0 j _ _ h0 rfl fun i c c' a b => by rw [a] at b; cases b; exact ih c (List.mem_of_getElem? a)
def PlRows (rows : List (List AV)) : Prop := ∀ row ∈ rows, ∀ c ∈ row, Pl c
theorem PlRows.nil : PlRows [] := by simp [PlRows]
theorem PlRows.map {α : Type} (l : List α) (f : α → Value) : PlRows (l.map fun x => [.val (f x)]) := by
  intro row hr c hc
  simp only [List.mem_map] at hr
  obtain ⟨x, _, rfl⟩ := hr
  simp only [List.mem_singleton] at hc
  subst hc
  exact .val _
theorem RowsRen.same {q : Rn} {h : Hp} (h0 : q.I 0 0) {rows rows' : List (List AV)} (e : rows = rows') (hp : PlRows rows) : RowsRen q h rows rows' := by
  subst e
  refine ⟨rfl, fun i row row' a b => by rw [a] at b; cases b; rfl, fun i j row row' c c' a b d e => ?_⟩
  rw [a] at b; cases b
  rw [d] at e; cases e
  exact (hp row (List.mem_of_getElem? a) c (List.mem_of_getElem? d)).ren h0
theorem RowsRen.pl {L I F : Prs} {h : Hp} {rows rows' : List (List AV)} (h0 : I.has 0 0 = true) (e : rows = rows') (hp : PlRows rows) : RowsRen (qOf L I F) h rows rows' := RowsRen.same ((Prs.has_iff I 0 0).1 h0) e hp
theorem PlRows.mapF {α : Type} (l : List α) (f : α → List AV) (H : ∀ x ∈ l, ∀ c ∈ f x, Pl c) : PlRows (l.map f) := by
  intro row hr c hc
  simp only [List.mem_map] at hr
  obtain ⟨x, hx, rfl⟩ := hr
  exact H x hx c hc
theorem RowsRen.nil {q : Rn} {h : Hp} : RowsRen q h [] [] := ⟨rfl, by simp, by simp⟩

def qTrue (b : Bool) (K : Prop) : Prop := match b with | true => K | false => False
theorem qTrue_i {b : Bool} {K : Prop} (h : qTrue b K) : b = true ∧ K := by cases b; exact h.elim; exact ⟨rfl, h⟩

/-- a cell seen as another -/
def cellE (L I F : Prs) (h : List Own) : AV → AV → Prop → Prop
  | _, .any, K => K
  | .val v, .val v', K => v = v' ∧ K
  | .ptr b i j, .ptr b' i' j', K => qTrue (L.has b b') (i = i' ∧ j = j' ∧ K)
  | .sl b i n, .sl b' i' n', K => qTrue (L.has b b') (i = i' ∧ n = n' ∧ K)
  | .val (.slice none 0 0), .list _ _ rows', K => rows' = [] ∧ K
  | .val (.slice none 0 0), .glist _ _ rows', K => rows' = [] ∧ K
  | .glist r sz rows, .glist r' sz' rows', K => qTrue (I.has r r') (sz = sz' ∧ RowsRen (qOf L I F) (ofL h) rows rows' ∧ K)
  | .glist r sz rows, .list r' sz' rows', K => qTrue (I.has r r') (sz = sz' ∧ RowsRen (qOf L I F) (ofL h) rows rows' ∧ K)
  | .sl b i n, .glist r' sz' rows', K => qTrue (F.has b r') (match ofL h b with | .live k => sz' = k.sz ∧ RowsRen (qOf L I F) (ofL h) ((k.rows.drop i).take n) rows' ∧ K | _ => False)
  | .list r sz rows, .list r' sz' rows', K => qTrue (I.has r r') (sz = sz' ∧ RowsRen (qOf L I F) (ofL h) rows rows' ∧ K)
  | .sl b i n, .list r' sz' rows', K => qTrue (F.has b r') (match ofL h b with | .live k => sz' = k.sz ∧ RowsRen (qOf L I F) (ofL h) ((k.rows.drop i).take n) rows' ∧ K | _ => False)
  | .lptr r row j, .lptr r' row' j', K => qTrue (I.has r r') (j = j' ∧ RowsRen (qOf L I F) (ofL h) [row] [row'] ∧ K)
  | _, _, _ => False
def cellsE (L I F : Prs) (h : List Own) : List AV → List AV → Prop → Prop
  | [], [], K => K
  | x :: xs, y :: ys, K => cellE L I F h x y (cellsE L I F h xs ys K)
  | _, _, _ => False
def avE (L I F : Prs) (h : List Own) : AV → AV → Prop → Prop
  | .agg cs, .agg cs', K => cellsE L I F h cs cs' K
  | .clo f cs, .clo f' cs', K => f = f' ∧ cellsE L I F h cs cs' K
  | x, y, K => cellE L I F h x y K
def avsE (L I F : Prs) (h : List Own) : List AV → List AV → Prop → Prop
  | [], [], K => K
  | x :: xs, y :: ys, K => avE L I F h x y (avsE L I F h xs ys K)
  | _, _, _ => False
def av2E (L I F : Prs) (h : List Own) : AV → AV → Prop → Prop
  | .tup cs, .tup cs', K => avsE L I F h cs cs' K
  | x, y, K => avE L I F h x y K
def slotsE (L I F : Prs) (h : List Own) : List AV → List AV → Prop → Prop
  | [], [], K => K
  | x :: xs, y :: ys, K => av2E L I F h x y (slotsE L I F h xs ys K)
  | _, _, _ => False

section
variable {L I F : Prs} {h : List Own}
theorem cellE_ok {x y : AV} {K : Prop} (H : cellE L I F h x y K) : Ren (qOf L I F) (ofL h) x y ∧ K := by
  unfold cellE at H
  split at H
  · exact ⟨.any _, H⟩
  · obtain ⟨rfl, H⟩ := H; exact ⟨.val _, H⟩
  · obtain ⟨h1, rfl, rfl, H'⟩ := qTrue_i H; exact ⟨.ptr _ _ _ _ ((L.has_iff _ _).1 h1), H'⟩
  · obtain ⟨h1, rfl, rfl, H'⟩ := qTrue_i H; exact ⟨.sl _ _ _ _ ((L.has_iff _ _).1 h1), H'⟩
  · obtain ⟨rfl, H⟩ := H; exact ⟨.vnil _ _, H⟩
  · obtain ⟨rfl, H⟩ := H; exact ⟨.vgnil _ _, H⟩
  · obtain ⟨h1, rfl, h2, H⟩ := qTrue_i H; exact ⟨.glist _ _ _ _ _ ((I.has_iff _ _).1 h1) h2.1 h2.2.1 h2.2.2, H⟩
  · obtain ⟨h1, rfl, h2, H⟩ := qTrue_i H; exact ⟨.gl _ _ _ _ (.list _ _ _ _ _ ((I.has_iff _ _).1 h1) h2.1 h2.2.1 h2.2.2), H⟩
  · obtain ⟨h1, H⟩ := qTrue_i H
    split at H
    · rename_i k hk
      obtain ⟨rfl, h2, H⟩ := H
      exact ⟨.frzg _ _ _ _ k _ ((F.has_iff _ _).1 h1) hk h2.1 h2.2.1 h2.2.2, H⟩
    · exact H.elim
  · obtain ⟨h1, rfl, h2, H⟩ := qTrue_i H; exact ⟨.list _ _ _ _ _ ((I.has_iff _ _).1 h1) h2.1 h2.2.1 h2.2.2, H⟩
  · obtain ⟨h1, H⟩ := qTrue_i H
    split at H
    · rename_i k hk
      obtain ⟨rfl, h2, H⟩ := H
      exact ⟨.frz _ _ _ _ k _ ((F.has_iff _ _).1 h1) hk h2.1 h2.2.1 h2.2.2, H⟩
    · exact H.elim
  · obtain ⟨h1, rfl, h2, H⟩ := qTrue_i H
    exact ⟨.lptr _ _ _ _ _ ((I.has_iff _ _).1 h1) (h2.2.1 0 _ _ rfl rfl) (fun i c c' a b => h2.2.2 0 i _ _ c c' rfl rfl a b), H⟩
  · exact H.elim
theorem cellsE_ok : ∀ {xs ys : List AV} {K : Prop}, cellsE L I F h xs ys K → (xs.length = ys.length ∧ ∀ (i : Nat) (c c' : AV), xs[i]? = some c → ys[i]? = some c' → Ren (qOf L I F) (ofL h) c c') ∧ K
  | [], [], K, H => ⟨⟨rfl, by simp⟩, H⟩
  | [], y :: ys, K, H => H.elim
  | x :: xs, [], K, H => H.elim
  | x :: xs, y :: ys, K, H => by
    obtain ⟨h1, h2⟩ := cellE_ok H
    obtain ⟨⟨h3, h4⟩, h5⟩ := cellsE_ok h2
    refine ⟨⟨by simp [h3], fun i c c' a b => ?_⟩, h5⟩
    cases i with
    | zero => simp at a b; subst a b; exact h1
    | succ i => exact h4 i c c' (by simpa using a) (by simpa using b)
theorem avE_ok {x y : AV} {K : Prop} (H : avE L I F h x y K) : Ren (qOf L I F) (ofL h) x y ∧ K := by
  unfold avE at H
  split at H
  · obtain ⟨⟨h1, h2⟩, h3⟩ := cellsE_ok H; exact ⟨.agg _ _ h1 h2, h3⟩
  · obtain ⟨rfl, H⟩ := H
    obtain ⟨⟨h1, h2⟩, h3⟩ := cellsE_ok H; exact ⟨.clo _ _ _ h1 h2, h3⟩
  · exact cellE_ok H
theorem avsE_ok : ∀ {xs ys : List AV} {K : Prop}, avsE L I F h xs ys K → (xs.length = ys.length ∧ ∀ (i : Nat) (c c' : AV), xs[i]? = some c → ys[i]? = some c' → Ren (qOf L I F) (ofL h) c c') ∧ K
  | [], [], K, H => ⟨⟨rfl, by simp⟩, H⟩
  | [], y :: ys, K, H => H.elim
  | x :: xs, [], K, H => H.elim
  | x :: xs, y :: ys, K, H => by
    obtain ⟨h1, h2⟩ := avE_ok H
    obtain ⟨⟨h3, h4⟩, h5⟩ := avsE_ok h2
    refine ⟨⟨by simp [h3], fun i c c' a b => ?_⟩, h5⟩
    cases i with
    | zero => simp at a b; subst a b; exact h1
    | succ i => exact h4 i c c' (by simpa using a) (by simpa using b)
theorem av2E_ok {x y : AV} {K : Prop} (H : av2E L I F h x y K) : Ren (qOf L I F) (ofL h) x y ∧ K := by
  unfold av2E at H
  split at H
  · obtain ⟨⟨h1, h2⟩, h3⟩ := avsE_ok H; exact ⟨.tup _ _ h1 h2, h3⟩
  · exact avE_ok H
theorem slotsE_ok : ∀ {xs ys : List AV} {K : Prop}, slotsE L I F h xs ys K → SlotsRen (qOf L I F) (ofL h) xs ys ∧ K
  | [], [], K, H => ⟨⟨rfl, by simp⟩, H⟩
  | [], y :: ys, K, H => H.elim
  | x :: xs, [], K, H => H.elim
  | x :: xs, y :: ys, K, H => by
    obtain ⟨h1, h2⟩ := av2E_ok H
    obtain ⟨⟨h3, h4⟩, h5⟩ := slotsE_ok h2
    refine ⟨⟨by simp [h3], fun i c c' a b => ?_⟩, h5⟩
    cases i with
    | zero => simp at a b; subst a b; exact h1
    | succ i => exact h4 i c c' (by simpa using a) (by simpa using b)
end

/-! ### names -/
def Own.isLive : Own → Bool | .live _ => true | _ => false
def Own.isImm : Own → Bool | .perm => true | .uniq => true | _ => false
def Own.isUniq : Own → Bool | .uniq => true | _ => false
def Own.isUsed : Own → Bool | .unused => false | _ => true
def Own.isDead : Own → Bool | .dead => true | _ => false
/-- the kinds alone -/
def Own.goesB : Own → Own → Bool
  | .unused, _ => true
  | _, .dead => true
  | .perm, .perm => true
  | .uniq, .uniq => true
  | .live k, .live k' => Nat.beq k'.sz k.sz
  | _, _ => false
def imp (a b : Bool) : Bool := !a || b
theorem imp_i {a b : Bool} (h : imp a b = true) (ha : a = true) : b = true := by subst ha; simpa [imp] using h
def allN : Nat → (Nat → Bool) → Bool
  | 0, _ => true
  | n + 1, f => f n && allN n f
theorem allN_i {f : Nat → Bool} : ∀ {n : Nat}, allN n f = true → ∀ y, y < n → f y = true
  | 0, _, y, hy => by omega
  | n + 1, h, y, hy => by
    simp only [allN, Bool.and_eq_true] at h
    by_cases e : y = n
    · subst e; exact h.1
    · exact allN_i h.2 y (by omega)

def kindsB (b h h' : List Own) (L I F : Prs) : Bool :=
  allN h'.length (fun y => imp (ofL h' y).isLive (L.any fun p => Nat.beq p.2 y)) &&
  L.all (fun p => (match ofL h p.1, ofL h' p.2 with | .live k, .live k' => Nat.beq k'.sz k.sz && Nat.beq k'.elem k.elem | _, _ => false) && imp (ofL b p.2).isUsed (Nat.beq p.1 p.2) &&
    L.all (fun q => (imp (Nat.beq p.2 q.2) (Nat.beq p.1 q.1)) && imp (Nat.beq p.1 q.1) (Nat.beq p.2 q.2)) && F.all fun q => !Nat.beq q.1 p.1) &&
  I.all (fun p => (ofL h p.1).isImm && (ofL h' p.2).isImm && imp (ofL h' p.2).isUniq (ofL h p.1).isUniq && imp (ofL b p.2).isUsed (Nat.beq p.1 p.2) &&
    imp (!(ofL b p.2).isUsed && (ofL h' p.2).isUniq && (ofL b p.1).isUsed) (ofL h' p.1).isDead &&
    imp (ofL h' p.2).isUniq (I.all fun q => imp (Nat.beq p.1 q.1) (Nat.beq p.2 q.2))) &&
  F.all (fun p => (ofL h p.1).isLive && (ofL h' p.2).isImm && !(ofL b p.2).isUsed && imp (ofL h' p.2).isUniq (F.all fun q => imp (Nat.beq p.1 q.1) (Nat.beq p.2 q.2))) &&
  allN b.length (fun y => imp (ofL b y).isUsed ((ofL h y).goesB (ofL h' y) && imp (ofL h' y).isImm (I.has y y)))

/-- the rows of blocks -/
def rowsE (q : Rn) (h h' : List Own) : Prs → Prop → Prop
  | [], K => K
  | (x, y) :: L, K => match ofL h x, ofL h' y with
    | .live k, .live k' => RowsRen q (ofL h) k.rows k'.rows ∧ rowsE q h h' L K
    | _, _ => False
theorem rowsE_ok {q : Rn} {h h' : List Own} : ∀ {L : Prs} {K : Prop}, rowsE q h h' L K → (∀ p ∈ L, ∀ k k', ofL h p.1 = .live k → ofL h' p.2 = .live k' → RowsRen q (ofL h) k.rows k'.rows) ∧ K
  | [], K, H => ⟨by simp, H⟩
  | (x, y) :: L, K, H => by
    unfold rowsE at H
    split at H
    · rename_i k k' h1 h2
      obtain ⟨H1, H2⟩ := H
      obtain ⟨h3, h4⟩ := rowsE_ok H2
      refine ⟨fun p hp a b e1 e2 => ?_, h4⟩
      rcases List.mem_cons.1 hp with rfl | hp
      · simp only at e1 e2
        rw [h1] at e1; rw [h2] at e2; cases e1; cases e2; exact H1
      · exact h3 p hp a b e1 e2
    · exact H.elim
theorem ofL_used {b : List Own} {y : Nat} (h : (ofL b y).isUsed = true) : y < b.length := by
  rcases Nat.lt_or_ge y b.length with h' | h'
  · exact h'
  · simp [ofL, List.getD, List.getElem?_eq_none h', Own.isUsed] at h
theorem isUsed_iff {o : Own} : o.isUsed = true ↔ o ≠ .unused := by cases o <;> simp [Own.isUsed]
theorem isUsed_f {o : Own} : o.isUsed = false ↔ o = .unused := by cases o <;> simp [Own.isUsed]
theorem isImm_iff {o : Own} : o.isImm = true ↔ o.imm := by cases o <;> simp [Own.isImm, Own.imm]
theorem isUniq_iff {o : Own} : o.isUniq = true ↔ o = .uniq := by cases o <;> simp [Own.isUniq]
theorem isDead_iff {o : Own} : o.isDead = true ↔ o = .dead := by cases o <;> simp [Own.isDead]
theorem isLive_i {o : Own} (h : o.isLive = true) : ∃ k, o = .live k := by cases o <;> simp [Own.isLive] at h; exact ⟨_, rfl⟩

theorem qConv.of {B : Base} {b : List Own} (hB : B.h = ofL b) (L I F : Prs) {sl sl' : List AV} {h h' : List Own} (hk : kindsB b h h' L I F = true)
    (H : rowsE (qOf L I F) h h' L (slotsE L I F h sl sl' True)) : qConv B sl h sl' h' := by
  obtain ⟨hrows, H⟩ := rowsE_ok H
  obtain ⟨hsl, _⟩ := slotsE_ok H
  simp only [kindsB, Bool.and_eq_true] at hk
  obtain ⟨⟨⟨⟨k1, k2⟩, k3⟩, k4⟩, k5⟩ := hk
  have k1 := allN_i k1
  have k5 := allN_i k5
  rw [List.all_eq_true] at k2 k3 k4
  have hL : ∀ p ∈ L, ∃ k k', ofL h p.1 = .live k ∧ ofL h' p.2 = .live k' ∧ k'.sz = k.sz ∧ k'.elem = k.elem := fun p hp => by
    have := k2 p hp
    simp only [Bool.and_eq_true] at this
    have := this.1.1.1
    split at this
    · rename_i k k' e1 e2
      simp only [Bool.and_eq_true, Nat.beq_eq] at this
      exact ⟨k, k', e1, e2, this.1, this.2⟩
    · cases this
  have hL2 : ∀ p ∈ L, (imp (ofL b p.2).isUsed (Nat.beq p.1 p.2)) = true ∧ (∀ q ∈ L, imp (Nat.beq p.2 q.2) (Nat.beq p.1 q.1) = true ∧ imp (Nat.beq p.1 q.1) (Nat.beq p.2 q.2) = true) ∧ ∀ q ∈ F, q.1 ≠ p.1 := fun p hp => by
    have := k2 p hp
    simp only [Bool.and_eq_true, List.all_eq_true] at this
    refine ⟨this.1.1.2, fun q hq => this.1.2 q hq, fun q hq e => ?_⟩
    have := this.2 q hq
    rw [e] at this
    simp at this
  have hI := fun p hp => by
    have := k3 p hp
    simp only [Bool.and_eq_true] at this
    exact this
  have hF := fun p hp => by
    have := k4 p hp
    simp only [Bool.and_eq_true] at this
    exact this
  have beq : ∀ {x y : Nat}, x = y → Nat.beq x y = true := fun e => by subst e; simp
  unfold qConv
  refine ConvS.turn (qOf L I F) ⟨⟨?_, ?_, ?_, ?_, ?_, ?_, ?_, ?_, ?_⟩, ?_, ?_, ?_, ?_, ?_, ?_⟩ hsl
  · intro y k' hy
    have := imp_i (k1 y (ofL_lt hy)) (by rw [hy]; rfl)
    rw [List.any_eq_true] at this
    obtain ⟨p, hp, e⟩ := this
    have e : p.2 = y := by simpa using e
    subst e
    obtain ⟨k, k2', e1, e2, e3, e4⟩ := hL p hp
    rw [hy] at e2; cases e2
    exact ⟨p.1, k, hp, e1, e3, e4, hrows p hp k k' e1 hy⟩
  · intro x y hxy
    obtain ⟨k, k', e1, e2, _⟩ := hL _ hxy
    exact ⟨k, k', e1, e2⟩
  · intro x x' y h1 h2
    have := imp_i ((hL2 _ h1).2.1 _ h2).1 (beq rfl)
    simpa using this
  · intro x y y' h1 h2
    have := imp_i ((hL2 _ h1).2.1 _ h2).2 (beq rfl)
    simpa using this
  · intro x y hxy
    obtain ⟨⟨⟨⟨⟨a1, a2⟩, a3⟩, _⟩, _⟩, _⟩ := hI _ hxy
    exact ⟨isImm_iff.1 a1, isImm_iff.1 a2, fun hu => isUniq_iff.1 (imp_i a3 (isUniq_iff.2 hu))⟩
  · intro x y y' h1 h2 hu
    obtain ⟨_, a6⟩ := hI _ h1
    have := imp_i a6 (isUniq_iff.2 hu)
    rw [List.all_eq_true] at this
    simpa using imp_i (this _ h2) (beq rfl)
  · intro x y hxy
    obtain ⟨⟨⟨a1, a2⟩, a3⟩, a4⟩ := hF _ hxy
    exact ⟨isLive_i a1, isImm_iff.1 a2⟩
  · intro x y y' h1 h2 hu
    obtain ⟨⟨⟨a1, a2⟩, a3⟩, a4⟩ := hF _ h1
    have := imp_i a4 (isUniq_iff.2 hu)
    rw [List.all_eq_true] at this
    simpa using imp_i (this _ h2) (beq rfl)
  · intro x y y' h1 h2
    exact (hL2 _ h2).2.2 _ h1 rfl
  · intro x y hxy hb
    rw [hB] at hb
    simpa using imp_i (hL2 _ hxy).1 (isUsed_iff.2 hb)
  · intro x y hxy hb
    rw [hB] at hb
    obtain ⟨⟨⟨⟨⟨a1, a2⟩, a3⟩, a4⟩, _⟩, _⟩ := hI _ hxy
    simpa using imp_i a4 (isUsed_iff.2 hb)
  · intro y hb hi
    rw [hB] at hb
    have hu := isUsed_iff.2 hb
    have := imp_i (k5 y (ofL_used hu)) hu
    simp only [Bool.and_eq_true] at this
    exact (I.has_iff _ _).1 (imp_i this.2 (isImm_iff.2 hi))
  · intro x y hxy
    obtain ⟨⟨⟨a1, a2⟩, a3⟩, a4⟩ := hF _ hxy
    rw [hB]
    exact isUsed_f.1 (by simpa using a3)
  · intro y hb
    rw [hB] at hb
    have hu := isUsed_iff.2 hb
    have := imp_i (k5 y (ofL_used hu)) hu
    simp only [Bool.and_eq_true] at this
    have h1 := this.1
    cases e1 : ofL h y <;> cases e2 : ofL h' y <;> rw [e1, e2] at h1 <;> first | trivial | (simp [Own.goesB] at h1; done) | skip
    rename_i k k'
    have := imp_i (k1 y (ofL_lt e2)) (by rw [e2]; rfl)
    rw [List.any_eq_true] at this
    obtain ⟨p, hp, e⟩ := this
    have e : p.2 = y := by simpa using e
    have e' : p.1 = p.2 := by simpa using imp_i (hL2 _ hp).1 (by rw [e]; exact hu)
    have hr := hrows p hp k k' (by rw [e', e]; exact e1) (by rw [e]; exact e2)
    refine ⟨by simpa [Own.goesB] using h1, Nat.le_of_eq hr.1⟩
  · intro x y hxy hb hu hbx
    rw [hB] at hb hbx
    obtain ⟨⟨_, a5⟩, _⟩ := hI _ hxy
    refine isDead_iff.1 (imp_i a5 ?_)
    simp only [isUsed_f.2 hb, isUniq_iff.2 hu, isUsed_iff.2 hbx, Bool.not_false, Bool.and_self]
end Go.Proofs.Ytjmjnndmpeeppaa

/- The argument of a statement as data: out of what is known of its cells. No condition. -/
import Derived.Test.YtjmjnndmpeeppaaTyped
import Derived.Test.YtjmjnndmpeeppaaAhiC
namespace Go.Proofs.Ytjmjnndmpeeppaa
open Go.ChangeShapes Go.WideShapes Go.ChangeAt Go.RowKit
set_option linter.unusedVariables false
set_option linter.unusedSimpArgs false

/-- Data of a type: in memory that stays (name 0). -/
def TyAV (P : Program) : Nat → TypeId → List AV → Prop
  | 0, _, _ => False
  | n + 1, t, avs =>
    match P.underlying t with
    | some .bool => ∃ b, avs = [.val (.bool b)]
    | some (.int k) => ∃ i, avs = [.val (.int k i)] ∧ k.min ≤ i ∧ i ≤ k.max
    | some .string => ∃ s, avs = [.val (.string s)] ∧ s.size ≤ maxLen
    | some (.slice e) => ∃ rows, avs = [.list 0 (P.cellsOf e) rows] ∧ rows.length ≤ maxLen ∧ ∀ row ∈ rows, row.length = P.cellsOf e ∧ TyAV P n e row
    | some (.struct fs) => avs.length = P.cellsOf t ∧ ∀ f ∈ fs.toList, TyAV P n f.type ((avs.drop f.offset).take (P.cellsOf f.type))
    | some (.array m e) => avs.length = P.cellsOf t ∧ ∀ i, i < m → TyAV P n e ((avs.drop (i * P.cellsOf e)).take (P.cellsOf e))
    | _ => False

/-- pieces that lie one behind the other -/
def tiles : Nat → List (Nat × Nat) → Nat → Bool
  | o, [], e => o == e
  | o, (o', n) :: l, e => o == o' && tiles (o + n) l e

/-- types of which all is read -/
def plainB (P : Program) : Nat → TypeId → Bool
  | 0, _ => false
  | n + 1, t =>
    match P.underlying t with
    | some .bool => true
    | some (.int _) => true
    | some .string => true
    | some (.slice e) => decide (0 < P.cellsOf e) && plainB P n e
    | some (.struct fs) => tiles 0 (fs.toList.map fun f => (f.offset, P.cellsOf f.type)) (P.cellsOf t) && fs.toList.all fun f => plainB P n f.type
    | some (.array m e) => tiles 0 ((List.range m).map fun i => (i * P.cellsOf e, P.cellsOf e)) (P.cellsOf t) && plainB P n e
    | _ => false

/-- cells that read as data, of memory that was there -/
def RRow (w : World) (avs : List AV) (cs : List Value) : Prop :=
  avs.length = cs.length ∧ ∀ (m : Nm), (∀ g, m.set 0 g ↔ g < w.heap.size) → ∀ (i : Nat) (c : AV) (v : Value), avs[i]? = some c → cs[i]? = some v → R m (ofL [.perm]) w c v

theorem RRow.one {w : World} {c : AV} {v : Value} (h : ∀ (m : Nm), (∀ g, m.set 0 g ↔ g < w.heap.size) → R m (ofL [.perm]) w c v) : RRow w [c] [v] := by
  refine ⟨rfl, fun m hm i c' v' h1 h2 => ?_⟩
  cases i with
  | zero => simp at h1 h2; subst h1 h2; exact h m hm
  | succ i => simp at h1
theorem RRow.append {w : World} {a b : List AV} {x y : List Value} (h1 : RRow w a x) (h2 : RRow w b y) : RRow w (a ++ b) (x ++ y) := by
  refine ⟨by simp [h1.1, h2.1], fun m hm i c v e1 e2 => ?_⟩
  by_cases hi : i < a.length
  · rw [List.getElem?_append_left hi] at e1
    rw [List.getElem?_append_left (by rw [← h1.1]; exact hi)] at e2
    exact h1.2 m hm i c v e1 e2
  · rw [List.getElem?_append_right (by omega)] at e1
    rw [List.getElem?_append_right (by rw [← h1.1]; omega), ← h1.1] at e2
    exact h2.2 m hm _ c v e1 e2

/-- pieces are read one by one -/
theorem read_pieces {α : Type} {w : World} (pl : α → Nat × Nat) (T : α → List AV → Prop) (cs : List Value) : ∀ (l : List α) (o : Nat), tiles o (l.map pl) cs.length = true →
    (∀ p ∈ l, ∃ avs, RRow w avs ((cs.drop (pl p).1).take (pl p).2) ∧ T p avs) →
    ∃ avs, RRow w avs (cs.drop o) ∧ ∀ p ∈ l, o ≤ (pl p).1 ∧ T p ((avs.drop ((pl p).1 - o)).take (pl p).2)
  | [], o, ht, _ => by
    simp only [List.map_nil, tiles, beq_iff_eq] at ht
    subst ht
    exact ⟨[], by simp [RRow], by simp⟩
  | p :: l, o, ht, hp => by
    simp only [List.map_cons, tiles, Bool.and_eq_true, beq_iff_eq] at ht
    obtain ⟨ho, ht⟩ := ht
    obtain ⟨a, ha, hT⟩ := hp p (by simp)
    obtain ⟨b, hb, hbs⟩ := read_pieces pl T cs l (o + (pl p).2) ht fun q hq => hp q (by simp [hq])
    have hle : ∀ (l : List (Nat × Nat)) (o : Nat), tiles o l cs.length = true → o ≤ cs.length := by
      intro l
      induction l with
      | nil => intro o h; simp [tiles] at h; omega
      | cons q l ih =>
        intro o h
        simp only [tiles, Bool.and_eq_true, beq_iff_eq] at h
        have := ih _ h.2; omega
    have h1 := hle _ _ ht
    have hal : a.length = (pl p).2 := by rw [ha.1, ← ho]; simp; omega
    refine ⟨a ++ b, ?_, fun q hq => ?_⟩
    · have : cs.drop o = (cs.drop o).take (pl p).2 ++ cs.drop (o + (pl p).2) := by
        rw [← List.drop_drop, List.take_append_drop]
      rw [this]
      rw [← ho] at ha
      exact ha.append hb
    · rcases List.mem_cons.1 hq with rfl | hq
      · refine ⟨by omega, ?_⟩
        rw [← ho, Nat.sub_self, List.drop_zero, List.take_append_of_le_length (by omega), List.take_of_length_le (by omega)]
        exact hT
      · obtain ⟨h2, h3⟩ := hbs q hq
        refine ⟨by omega, ?_⟩
        have : (pl q).1 - o = a.length + ((pl q).1 - (o + (pl p).2)) := by omega
        rw [this, List.drop_append, List.drop_eq_nil_of_le (by omega), List.nil_append, Nat.add_sub_cancel_left]
        exact h3

theorem choose_lt' {α : Type} {p : Nat → α → Prop} : ∀ (n : Nat), (∀ i, i < n → ∃ v, p i v) → ∃ vs : List α, vs.length = n ∧ ∀ i v, vs[i]? = some v → p i v
  | 0, _ => ⟨[], rfl, by simp⟩
  | n + 1, h => by
    obtain ⟨vs, h1, h2⟩ := choose_lt' n fun i hi => h i (by omega)
    obtain ⟨v, hv⟩ := h n (by omega)
    refine ⟨vs ++ [v], by simp [h1], fun i u hu => ?_⟩
    by_cases hi : i < n
    · rw [List.getElem?_append_left (by omega)] at hu; exact h2 i u hu
    · have hlt := (List.getElem?_eq_some_iff.1 hu).1
      simp at hlt
      have : i = n := by omega
      subst this
      rw [List.getElem?_append_right (by omega), h1] at hu
      simp at hu; subst hu; exact hv

theorem read_typed {P : Program} {w : World} : ∀ (q n : Nat) (t : TypeId) (cs : List Value), plainB P q t = true → Typed P w n t cs → ∃ avs, RRow w avs cs ∧ TyAV P q t avs
  | 0, _, _, _, hq, _ => by simp [plainB] at hq
  | q + 1, 0, _, _, _, h => h.elim
  | q + 1, n + 1, t, cs, hq, h => by
    unfold plainB at hq
    unfold Typed at h
    unfold TyAV
    split at hq
    · rename_i hu
      rw [hu] at h
      obtain ⟨b, rfl⟩ := h
      exact ⟨_, .one fun m hm => .val _, b, rfl⟩
    · rename_i k hu
      rw [hu] at h
      obtain ⟨i, rfl, hi⟩ := h
      exact ⟨_, .one fun m hm => .val _, i, rfl, hi⟩
    · rename_i hu
      rw [hu] at h
      obtain ⟨s, rfl, hs⟩ := h
      exact ⟨_, .one fun m hm => .val _, s, rfl, hs⟩
    · rename_i e hu
      rw [hu] at h
      simp only [Bool.and_eq_true, decide_eq_true_eq] at hq
      obtain ⟨hz, hq⟩ := hq
      rcases h with rfl | ⟨a, len, cap, rfl, hlc, hcm, hx⟩
      · exact ⟨[.list 0 (P.cellsOf e) []], .one fun m hm => .nil _ _, [], rfl, by simp, by simp⟩
      · obtain ⟨rows, hl, hrows⟩ := choose_lt' (p := fun i row => ∃ es, w.cells? 0 (a.add (i * P.cellsOf e)) (P.cellsOf e) = some es ∧ RRow w row es ∧ TyAV P q e row) len (fun i hi => by
          obtain ⟨es, h1, h2⟩ := hx i hi
          obtain ⟨avs, h3, h4⟩ := read_typed q n e es hq h2
          exact ⟨avs, es, h1, h3, h4⟩)
        have rlen : ∀ (i : Nat) (row : List AV), rows[i]? = some row → row.length = P.cellsOf e := fun i row hr => by
          obtain ⟨es, h1, h2, _⟩ := hrows i row hr
          rw [h2.1, (World.cells?_some h1).2.1]
        refine ⟨[.list 0 (P.cellsOf e) rows], .one fun m hm => ?_, rows, rfl, by omega, fun row hr => ?_⟩
        · rcases Nat.eq_zero_or_pos len with h0 | h0
          · subst h0
            have : rows = [] := List.eq_nil_of_length_eq_zero hl
            subst this
            exact .emp _ _ _ _ trivial hcm
          · have cell : ∀ (i j : Nat) (row : List AV) (c : AV), rows[i]? = some row → row[j]? = some c → ∃ v, w.cell? (a.add (i * P.cellsOf e) |>.add j) = some v ∧ R m (ofL [.perm]) w c v := fun i j row c h1 h2 => by
              obtain ⟨es, h3, h4, _⟩ := hrows i row h1
              have hj : j < P.cellsOf e := by rw [← rlen i row h1]; exact (List.getElem?_eq_some_iff.1 h2).1
              obtain ⟨_, h5, h6⟩ := World.cells?_some h3
              have h7 := List.getElem?_eq_getElem (show j < es.length by omega)
              exact ⟨es[j], (h6 j hj).trans h7, h4.2 m hm j c _ h2 h7⟩
            obtain ⟨b, o, sp⟩ := a
            have hsp : sp = none := by
              have h1 := List.getElem?_eq_getElem (show 0 < rows.length by omega)
              have h2 := List.getElem?_eq_getElem (show 0 < (rows[0]).length by rw [rlen 0 _ h1]; exact hz)
              obtain ⟨v, h3, _⟩ := cell 0 0 _ _ h1 h2
              have := World.cell?_spot h3
              simpa [Addr.add] using this
            subst hsp
            have cell' : ∀ (i j : Nat) (row : List AV) (c : AV), rows[i]? = some row → row[j]? = some c → ∃ v, w.cell? ⟨b, o + i * P.cellsOf e + j, none⟩ = some v ∧ R m (ofL [.perm]) w c v := fun i j row c h1 h2 => by
              obtain ⟨v, h3, h4⟩ := cell i j row c h1 h2
              rw [add_none, add_none] at h3
              exact ⟨v, h3, h4⟩
            have hb : b < w.heap.size := by
              have h1 := List.getElem?_eq_getElem (show 0 < rows.length by omega)
              have h2 := List.getElem?_eq_getElem (show 0 < (rows[0]).length by rw [rlen 0 _ h1]; exact hz)
              obtain ⟨v, h3, _⟩ := cell' 0 0 _ _ h1 h2
              unfold World.cell? at h3
              split at h3
              · rename_i hg
                exact (Array.getElem?_eq_some_iff.1 hg).1
              · cases h3
            rw [← hl]
            refine R.list (m := m) (h := ofL [.perm]) (w := w) 0 _ rows trivial b o cap ((hm b).2 hb) (by omega) hcm (fun row hr => ?_) (fun i j => (w.cell? ⟨b, o + i * P.cellsOf e + j, none⟩).getD undef) (fun i j row c h1 h2 => ?_) fun i j row c h1 h2 => ?_
            · obtain ⟨i, hi⟩ := List.getElem?_of_mem hr
              exact rlen i row hi
            · obtain ⟨v, h3, _⟩ := cell' i j row c h1 h2
              rw [h3]; rfl
            · obtain ⟨v, h3, h4⟩ := cell' i j row c h1 h2
              rw [h3]; exact h4
        · obtain ⟨i, hi⟩ := List.getElem?_of_mem hr
          obtain ⟨es, _, _, h4⟩ := hrows i row hi
          exact ⟨rlen i row hi, h4⟩
    · rename_i fs hu
      rw [hu] at h
      simp only [Bool.and_eq_true, List.all_eq_true] at hq
      obtain ⟨ht, hf⟩ := hq
      obtain ⟨hl, hx⟩ := h
      obtain ⟨avs, h1, h2⟩ := read_pieces (w := w) (fun f : Field => (f.offset, P.cellsOf f.type)) (fun f avs => TyAV P q f.type avs) cs fs.toList 0 (by rw [hl]; exact ht)
        (fun f hf' => read_typed q n f.type _ (hf f hf') (hx f hf'))
      rw [List.drop_zero] at h1
      exact ⟨avs, h1, by rw [h1.1, hl], fun f hf' => by simpa using (h2 f hf').2⟩
    · rename_i k e hu
      rw [hu] at h
      simp only [Bool.and_eq_true] at hq
      obtain ⟨ht, hf⟩ := hq
      obtain ⟨hl, hx⟩ := h
      obtain ⟨avs, h1, h2⟩ := read_pieces (w := w) (fun i : Nat => (i * P.cellsOf e, P.cellsOf e)) (fun _ avs => TyAV P q e avs) cs (List.range k) 0 (by rw [hl]; exact ht)
        (fun i hi => read_typed q n e _ hf (hx i (List.mem_range.1 hi)))
      rw [List.drop_zero] at h1
      exact ⟨avs, h1, by rw [h1.1, hl], fun i hi => by simpa using (h2 i (List.mem_range.2 hi)).2⟩
    · cases hq
end Go.Proofs.Ytjmjnndmpeeppaa

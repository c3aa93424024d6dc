/- Memory that is let go of, whatever is written there. No condition. -/
import Derived.Test.YtjmjnndmpeeppaaSpoilX
namespace Go.Proofs.Ytjmjnndmpeeppaa
open Go.RowKit
set_option linter.unusedVariables false
set_option linter.unusedSimpArgs false
set_option maxRecDepth 100000

/-- blocks of D may turn; all else stays -/
structure Sq (D : Nat → Prop) (w w' : World) : Prop where
  size : w.heap.size ≤ w'.heap.size
  os : w'.os = w.os
  tape : w'.tape = w.tape
  output : w'.output = w.output
  far : ∀ g, g < w.heap.size → ¬ D g → w'.heap[g]? = w.heap[g]?
theorem Sq.of {D P S : Nat → Prop} {w w' : World} (h : Sp D P w w') (hd : ∀ g, D g → S g) (hp : ∀ g, P g → S g) : Sq S w w' := ⟨h.size, h.os, h.tape, h.output, fun g hg hn => h.far g hg (fun h => hn (hd g h)) (fun h => hn (hp g h))⟩
theorem Sq.trans {D : Nat → Prop} {a b c : World} (h : Sq D a b) (k : Sq D b c) : Sq D a c :=
  ⟨Nat.le_trans h.size k.size, k.os.trans h.os, k.tape.trans h.tape, k.output.trans h.output, fun g hg h1 => (k.far g (Nat.lt_of_lt_of_le hg h.size) h1).trans (h.far g hg h1)⟩
theorem Sq.grown {D : Nat → Prop} {w w' : World} (hg : w.grownBy w' none) : Sq D w w' := ⟨hg.size, hg.os, hg.tape, hg.output, fun k hk _ => hg.block k hk (by simp)⟩
theorem Sq.setCells {D : Nat → Prop} {g : Nat} (hd : D g) : ∀ (vs : List Value) (o : Nat) (w : World), Sq D w (w.setCells g o vs)
  | [], o, w => ⟨Nat.le_refl _, rfl, rfl, rfl, fun _ _ _ => rfl⟩
  | v :: vs, o, w => by
    have h1 : Sq D w (w.setCell ⟨g, o, none⟩ v) := ⟨by simp [World.setCell], rfl, rfl, rfl, fun x hx hn => Below.heap_setCell _ _ _ _ (by rintro rfl; exact hn hd)⟩
    exact h1.trans (Sq.setCells hd vs (o + 1) _)
theorem Rel.spoilQ {m : Nm} {h : Hp} {w w' : World} (rel : Rel m h w) {D : Nat → Prop} (h' : Hp) (hU : ∀ id, h' id = h id ∨ (h id = .uniq ∧ h' id = .dead)) (hD : ∀ g, D g → ∃ r, h r = .uniq ∧ h' r = .dead ∧ m.set r g) (S : Sq D w w') : Rel m h' w' ∧ Ev m h w m h' w' := by
  have live : ∀ id k, h' id = .live k → h id = .live k := fun id k hk => by
    rcases hU id with e | ⟨_, e⟩
    · rw [← e]; exact hk
    · rw [hk] at e; cases e
  have imm : ∀ r, (h' r).imm → h' r = h r := fun r hr => by
    rcases hU r with e | ⟨_, e⟩
    · exact e
    · rw [e] at hr; exact hr.elim
  have farL : ∀ id k, h id = .live k → w'.heap[(m.pl id).1]? = w.heap[(m.pl id).1]? := fun id k hk => by
    have hlt : (m.pl id).1 < w.heap.size := by
      obtain ⟨c, hc, _⟩ := rel.own id k hk
      exact (Array.getElem?_eq_some_iff.1 hc).1
    have no : ¬ (D (m.pl id).1) := fun hh => by
      obtain ⟨r, h1, _, h3⟩ := hD _ hh
      exact rel.sepR id k r hk (by rw [h1]; trivial) h3
    exact S.far _ hlt no
  have ev : Ev m h w m h' w' := by
    refine ⟨fun _ _ => rfl, fun _ _ => rfl, fun id => ?_, S.size, fun id k k' h1 h2 cur e f hc => ⟨cur, e, f, by rw [← farL id k h1]; exact hc, rfl⟩, fun g hg ho hu => ?_, fun id k h1 h2 => ?_, fun id g h1 h2 => ?_, S.os, S.tape, S.output⟩
    · rcases hU id with e | ⟨e1, e⟩
      · rw [e]; exact Own.goes_refl _
      · rw [e, e1]; trivial
    · have no : ¬ (D g) := fun hh => by
        obtain ⟨r, h1, h2, h3⟩ := hD _ hh
        have := hu r h1 h3
        rw [h2] at this; cases this
      exact S.far _ hg no
    · have := live id k h2; rw [h1] at this; cases this
    · have := imm id (by rw [h2]; trivial)
      rw [h2, h1] at this; cases this
  refine ⟨⟨fun id k hk => ?_, fun id id' k k' h1 h2 e => rel.sep id id' k k' (live _ _ h1) (live _ _ h2) e, fun id k r h1 h2 => ?_, fun r r' g h1 h2 hne hs => ?_, fun r g h1 hs => ?_, fun r g h1 hs => ?_⟩, ev⟩
  · have h0 := live id k hk
    obtain ⟨cur, h1, h2, h3, h4⟩ := rel.own id k h0
    exact ⟨cur, by rw [farL id k h0]; exact h1, h2, h3, fun i j row c a b => let ⟨v, x, y⟩ := h4 i j row c a b; ⟨v, x, y.mono rel ev⟩⟩
  · have e := imm r h2
    exact rel.sepR id k r (live _ _ h1) (by rw [← e]; exact h2)
  · have e1 := imm r (by rw [h1]; trivial)
    have e2 := imm r' h2
    exact rel.sepU r r' g (by rw [← e1]; exact h1) (by rw [← e2]; exact h2) hne hs
  · have e1 := imm r h1
    exact Nat.lt_of_lt_of_le (rel.bound r g (by rw [← e1]; exact h1) hs) S.size
  · have e1 := imm r (by rw [h1]; trivial)
    have hr : h r = .uniq := by rw [← e1]; exact h1
    have no : ¬ (D g) := fun hh => by
      obtain ⟨r2, h3, h4, h5⟩ := hD _ hh
      have hne : r2 ≠ r := by rintro rfl; rw [h1] at h4; cases h4
      exact rel.sepU r2 r g h3 (by rw [hr]; trivial) hne h5 hs
    rw [S.far _ (rel.bound r g (by rw [hr]; trivial) hs) no]
    exact rel.free r g hr hs

end Go.Proofs.Ytjmjnndmpeeppaa

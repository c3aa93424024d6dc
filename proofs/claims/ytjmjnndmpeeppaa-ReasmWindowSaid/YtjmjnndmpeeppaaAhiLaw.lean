/- Out of a law's contract on data: it returns true, and what was there stays. No condition. -/
import Derived.Test.YtjmjnndmpeeppaaAhiEq
namespace Go.Proofs.Ytjmjnndmpeeppaa
open Go.RowKit
set_option linter.unusedVariables false
set_option linter.unusedSimpArgs false

section
variable {P : Program}

theorem ofL_perm (x : Nat) : ofL [.perm] x = .perm ∧ x = 0 ∨ ofL [.perm] x = .unused ∧ x ≠ 0 := by
  cases x <;> simp [ofL, List.getD]
theorem rel_perm {m : Nm} {W : World} (hm : ∀ g, m.set 0 g ↔ g < W.heap.size) : Rel m (ofL [.perm]) W := by
  have nolive : ∀ id k, ofL [Own.perm] id ≠ .live k := fun id k h => by rcases ofL_perm id with ⟨e, _⟩ | ⟨e, _⟩ <;> rw [e] at h <;> cases h
  have nouniq : ∀ id, ofL [Own.perm] id ≠ .uniq := fun id h => by rcases ofL_perm id with ⟨e, _⟩ | ⟨e, _⟩ <;> rw [e] at h <;> cases h
  refine ⟨fun id k h => (nolive id k h).elim, fun id id' k k' h => (nolive id k h).elim, fun id k r h => (nolive id k h).elim, fun r r' g h => (nouniq r h).elim, fun r g h hs => ?_, fun r g h => (nouniq r h).elim⟩
  rcases ofL_perm r with ⟨e, rfl⟩ | ⟨e, _⟩
  · exact (hm g).1 hs
  · rw [e] at h; exact h.elim

theorem law_of {f : FuncId} {av : AV} (H : ACallL P f [av] [.perm] (.val (.bool true)) [.perm]) {W : World} {v : Value} (hR : ∀ m : Nm, (∀ g, m.set 0 g ↔ g < W.heap.size) → R m (ofL [.perm]) W av v) :
    Calls P f #[v] W fun e W' => e = .returned (.bool true) ∧ Below W.heap.size W W' := by
  let m : Nm := ⟨fun _ => (0, 0), fun r g => g < W.heap.size⟩
  have hm : ∀ g, m.set 0 g ↔ g < W.heap.size := fun g => Iff.rfl
  refine (H.2 m W #[v] (rel_perm hm) ⟨rfl, fun i c u h1 h2 => ?_⟩).mono ?_
  · cases i with
    | zero => simp at h1 h2; subst h1 h2; exact hR m hm
    | succ i => simp at h1
  · rintro e w' ⟨u, m', rfl, rel, ev, hu⟩
    have := hu.val_inv
    subst this
    refine ⟨rfl, ev.os, ev.tape, ev.output, ev.size, fun k hk => ev.frame k hk (fun id b h => ?_) (fun r h => ?_)⟩
    · rcases ofL_perm id with ⟨e, _⟩ | ⟨e, _⟩ <;> rw [e] at h <;> cases h
    · rcases ofL_perm r with ⟨e, _⟩ | ⟨e, _⟩ <;> rw [e] at h <;> cases h

theorem R.agg_cons {m : Nm} {h : Hp} {w : World} {cs : List AV} {vs : List Value} (hc : cs.length = vs.length) (H : ∀ (i : Nat) (c : AV) (v : Value), cs[i]? = some c → vs[i]? = some v → R m h w c v) : R m h w (.agg cs) (.agg vs.toArray) :=
  .agg _ _ (by simpa using hc) fun i c v a b => H i c v a (by simpa using b)
end
end Go.Proofs.Ytjmjnndmpeeppaa

/- Memory that is let go of, on data. No condition but lengths. -/
import Derived.Test.YtjmjnndmpeeppaaSpoil
import Derived.Test.YtjmjnndmpeeppaaAhParts
namespace Go.Proofs.Ytjmjnndmpeeppaa
open Go.RowKit
set_option linter.unusedVariables false
set_option linter.unusedSimpArgs false
set_option maxRecDepth 100000

theorem Rel.spoil {m : Nm} {h : Hp} {w w' : World} (rel : Rel m h w) {D P : Nat → Prop} (h' : Hp) (hU : ∀ id, h' id = h id ∨ (h id = .uniq ∧ h' id = .dead)) (hD : ∀ g, D g ∨ P g → ∃ r, h r = .uniq ∧ h' r = .dead ∧ m.set r g) (S : Sp D P w w') : Rel m h' w' ∧ Ev m h w m h' w' := by
  have live : ∀ id k, h' id = .live k → h id = .live k := fun id k hk => by
    rcases hU id with e | ⟨_, e⟩
    · rw [← e]; exact hk
    · rw [hk] at e; cases e
  have imm : ∀ r, (h' r).imm → h' r = h r := fun r hr => by
    rcases hU r with e | ⟨_, e⟩
    · exact e
    · rw [e] at hr; exact hr.elim
  have farL : ∀ id k, h id = .live k → w'.heap[(m.pl id).1]? = w.heap[(m.pl id).1]? := fun id k hk => by
    have hlt : (m.pl id).1 < w.heap.size := by
      obtain ⟨c, hc, _⟩ := rel.own id k hk
      exact (Array.getElem?_eq_some_iff.1 hc).1
    have no : ¬ (D (m.pl id).1 ∨ P (m.pl id).1) := fun hh => by
      obtain ⟨r, h1, _, h3⟩ := hD _ hh
      exact rel.sepR id k r hk (by rw [h1]; trivial) h3
    exact S.far _ hlt (fun h => no (.inl h)) (fun h => no (.inr h))
  have ev : Ev m h w m h' w' := by
    refine ⟨fun _ _ => rfl, fun _ _ => rfl, fun id => ?_, S.size, fun id k k' h1 h2 cur e f hc => ⟨cur, e, f, by rw [← farL id k h1]; exact hc, rfl⟩, fun g hg ho hu => ?_, fun id k h1 h2 => ?_, fun id g h1 h2 => ?_, S.os, S.tape, S.output⟩
    · rcases hU id with e | ⟨e1, e⟩
      · rw [e]; exact Own.goes_refl _
      · rw [e, e1]; trivial
    · have no : ¬ (D g ∨ P g) := fun hh => by
        obtain ⟨r, h1, h2, h3⟩ := hD _ hh
        have := hu r h1 h3
        rw [h2] at this; cases this
      exact S.far _ hg (fun h => no (.inl h)) (fun h => no (.inr h))
    · have := live id k h2; rw [h1] at this; cases this
    · have := imm id (by rw [h2]; trivial)
      rw [h2, h1] at this; cases this
  refine ⟨⟨fun id k hk => ?_, fun id id' k k' h1 h2 e => rel.sep id id' k k' (live _ _ h1) (live _ _ h2) e, fun id k r h1 h2 => ?_, fun r r' g h1 h2 hne hs => ?_, fun r g h1 hs => ?_, fun r g h1 hs => ?_⟩, ev⟩
  · have h0 := live id k hk
    obtain ⟨cur, h1, h2, h3, h4⟩ := rel.own id k h0
    exact ⟨cur, by rw [farL id k h0]; exact h1, h2, h3, fun i j row c a b => let ⟨v, x, y⟩ := h4 i j row c a b; ⟨v, x, y.mono rel ev⟩⟩
  · have e := imm r h2
    exact rel.sepR id k r (live _ _ h1) (by rw [← e]; exact h2)
  · have e1 := imm r (by rw [h1]; trivial)
    have e2 := imm r' h2
    exact rel.sepU r r' g (by rw [← e1]; exact h1) (by rw [← e2]; exact h2) hne hs
  · have e1 := imm r h1
    exact Nat.lt_of_lt_of_le (rel.bound r g (by rw [← e1]; exact h1) hs) S.size
  · have e1 := imm r (by rw [h1]; trivial)
    have hr : h r = .uniq := by rw [← e1]; exact h1
    have no : ¬ (D g ∨ P g) := fun hh => by
      obtain ⟨r2, h3, h4, h5⟩ := hD _ hh
      have hne : r2 ≠ r := by rintro rfl; rw [h1] at h4; cases h4
      exact rel.sepU r2 r g h3 (by rw [hr]; trivial) hne h5 hs
    rw [S.far _ (rel.bound r g (by rw [hr]; trivial) hs) (fun h => no (.inl h)) (fun h => no (.inr h))]
    exact rel.free r g hr hs

theorem BySp.ofR {m : Nm} {h : Hp} {w : World} (rel : Rel m h w) {r : Nat} (hr : h r = .uniq) {xs : List Int} (hx : xs.length ≤ 100000000) {v : Value} (hR : R m h w (gL r xs) v) : BySp (m.set r) w v := by
  have lx : (xs.map bR).length = xs.length := by simp
  rcases R.glist_inv (by rw [hr]; trivial) hR with ⟨_, rfl⟩ | ⟨_, a, rfl⟩ | ⟨g, off, cap, rfl, hg, hc, hm, hw, hz, f, hf, hRR⟩
  · exact .inl rfl
  · exact .inr (.inl ⟨a, rfl⟩)
  · rw [lx] at hc ⊢
    by_cases h0 : cap = 0
    · subst h0
      have : xs.length = 0 := by omega
      rw [this]
      exact .inr (.inl ⟨_, rfl⟩)
    · obtain ⟨cur, e, hcur⟩ := rel.free r g hr hg
      have hs := hz h0 cur e (0, 0) hcur
      refine .inr (.inr ⟨g, off, xs.length, cap, cur, e, rfl, hg, hc, hm, hx, hcur, by omega, fun k hk => ?_⟩)
      have hrow : (xs.map bR)[k]? = some [.val (.int .u8 xs[k])] := by simp [hk]
      have h1 := hf k 0 _ (.val (.int .u8 xs[k])) hrow rfl
      have h2 := hRR k 0 _ (.val (.int .u8 xs[k])) hrow rfl
      have e1 := h2.val_inv
      rw [e1] at h1
      refine ⟨xs[k], ?_⟩
      simpa [World.cell?, hcur] using h1
theorem PaSp.ofR {m : Nm} {h : Hp} {w : World} (rel : Rel m h w) {r r' : Nat} (hr : h r = .uniq) (hr' : h r' = .uniq) {ps : List Pt} (hp : PtsOk ps) {v : Value} (hR : R m h w (.list r 2 (ps.map (prg r'))) v) : PaSp (m.set r') (m.set r) w v := by
  have lp : (ps.map (prg r')).length = ps.length := by simp
  generalize hrows : ps.map (prg r') = rows at hR lp
  cases hR with
  | nil => exact .inl rfl
  | emp _ _ cap a hi hm => exact .inr (.inl ⟨a, cap, rfl⟩)
  | listD _ _ _ _ hd _ => rw [hr] at hd; cases hd
  | list _ _ _ hi g off cap hg hc hm hw f hf hRR =>
    obtain ⟨cur, e, hcur⟩ := rel.free r g hr hg
    refine .inr (.inr ⟨g, off, rows.length, cap, cur, e, rfl, hg, by rw [lp]; exact hp.1, hcur, fun k hk => ?_⟩)
    rw [lp] at hk
    have hrow : rows[k]? = some (prg r' ps[k]) := by rw [← hrows]; simp [hk]
    have h1 := hf k 0 _ (.val (.int .i64 ps[k].1)) hrow rfl
    have h2 := hRR k 0 _ (.val (.int .i64 ps[k].1)) hrow rfl
    rw [h2.val_inv] at h1
    have h3 := hf k 1 _ (gL r' ps[k].2) hrow rfl
    have h4 := hRR k 1 _ (gL r' ps[k].2) hrow rfl
    refine ⟨ps[k].1, f k 1, ?_, ?_, BySp.ofR rel hr' (hp.2 _ (List.getElem_mem hk)) h4⟩
    · simpa [World.cell?, hcur] using h1
    · simpa [World.cell?, hcur] using h3
theorem R.tup0 {m : Nm} {h : Hp} {w : World} : R m h w (.tup []) (.tuple #[]) := .tup _ _ rfl (by simp)
theorem spBytes_l (xs : List Int) (hx : xs.length ≤ 100000000) : ACallL Try.prog 29 [gL 1 xs] [.perm, .uniq] (.tup []) [.perm, .dead] := by
  refine ⟨fun a w => Try.call29 a w, fun m w vs rel hl => ?_⟩
  obtain ⟨v, rfl⟩ : ∃ v, vs = #[v] := by
    obtain ⟨vs⟩ := vs
    match vs, hl.1 with
    | [v], _ => exact ⟨v, rfl⟩
  have hR := hl.2 0 _ v rfl rfl
  have hu : ofL [.perm, .uniq] 1 = .uniq := rfl
  refine (bytes_sp (m.set 1) (fun _ => False) (fun _ _ h => h) v w (BySp.ofR rel hu hx hR)).mono fun e w' ⟨he, S⟩ => ?_
  obtain ⟨r1, r2⟩ := rel.spoil (ofL [.perm, .dead]) (fun id => by rcases id with _ | _ | id <;> first | exact .inl rfl | exact .inr ⟨rfl, rfl⟩) (fun g hg => ⟨1, rfl, rfl, by rcases hg with h | h; exact h; exact h.elim⟩) S
  exact ⟨_, m, he, r1, r2, R.tup0⟩
theorem spBuffer_l (n : Int) (ps : List Pt) (hp : PtsOk ps) : ACallL Try.prog 28 [.agg [.val (.int .i64 n), .list 1 2 (ps.map (prg 2))]] [.perm, .uniq, .uniq] (.tup []) [.perm, .dead, .dead] := by
  refine ⟨fun a w => Try.call28 a w, fun m w vs rel hl => ?_⟩
  obtain ⟨v, rfl⟩ : ∃ v, vs = #[v] := by
    obtain ⟨vs⟩ := vs
    match vs, hl.1 with
    | [v], _ => exact ⟨v, rfl⟩
  have hR := hl.2 0 _ v rfl rfl
  cases hR with
  | agg _ vs hle hc =>
    obtain ⟨a, b, rfl⟩ : ∃ a b, vs = #[a, b] := by
      obtain ⟨vs⟩ := vs
      match vs, hle with
      | [a, b], _ => exact ⟨a, b, rfl⟩
    have h0 := (hc 0 _ a rfl rfl).val_inv
    have h1 := hc 1 _ b rfl rfl
    subst h0
    have u1 : ofL [.perm, .uniq, .uniq] 1 = .uniq := rfl
    have u2 : ofL [.perm, .uniq, .uniq] 2 = .uniq := rfl
    refine (buffer_sp (m.set 2) (m.set 1) (fun g hd hp => rel.sepU 2 1 g u2 (by rw [u1]; trivial) (by decide) hd hp) n b w (fun g hg => by rcases hg with h | h; exact rel.bound 2 g (by rw [u2]; trivial) h; exact rel.bound 1 g (by rw [u1]; trivial) h) (PaSp.ofR rel u1 u2 hp h1)).mono fun e w' ⟨he, S⟩ => ?_
    obtain ⟨r1, r2⟩ := rel.spoil (ofL [.perm, .dead, .dead]) (fun id => by rcases id with _ | _ | _ | id <;> first | exact .inl rfl | exact .inr ⟨rfl, rfl⟩) (fun g hg => by rcases hg with h | h; exact ⟨2, rfl, rfl, h⟩; exact ⟨1, rfl, rfl, h⟩) S
    exact ⟨_, m, he, r1, r2, R.tup0⟩
end Go.Proofs.Ytjmjnndmpeeppaa

/- How the heap of names goes on: a new block, a block written, a block handed to another name. No condition. -/
import Derived.Test.YtjmjnndmpeeppaaAhi
namespace Go.Proofs.Ytjmjnndmpeeppaa
open Go.RowKit
set_option linter.unusedVariables false
set_option linter.unusedSimpArgs false

def Nm.at (m : Nm) (id : Nat) (p : Nat × Nat) : Nm := { pl := fun x => if x = id then p else m.pl x, set := m.set }
def Nm.of (m : Nm) (id : Nat) (s : Nat → Prop) : Nm := { pl := m.pl, set := fun x => if x = id then s else m.set x }
theorem Nm.at_same (m : Nm) (id : Nat) (p : Nat × Nat) : (m.at id p).pl id = p := by simp [Nm.at]
theorem Nm.at_ne (m : Nm) {id x : Nat} (p : Nat × Nat) (h : x ≠ id) : (m.at id p).pl x = m.pl x := by simp [Nm.at, h]
theorem Nm.of_same (m : Nm) (id : Nat) (s : Nat → Prop) : (m.of id s).set id = s := by simp [Nm.of]
theorem Nm.of_ne (m : Nm) {id x : Nat} (s : Nat → Prop) (h : x ≠ id) : (m.of id s).set x = m.set x := by simp [Nm.of, h]

/-- The world alone has moved (draws). -/
theorem Ev.world {m : Nm} {h : Hp} {w w' : World} (hh : w'.heap = w.heap) (o1 : w'.os = w.os) (o2 : w'.tape = w.tape) (o3 : w'.output = w.output) : Ev m h w m h w' where
  pl := fun _ _ => rfl
  set := fun _ _ => rfl
  kind := fun _ => Own.goes_refl _
  size := by rw [hh]; exact Nat.le_refl _
  cells := fun id k k' h1 h2 cur e f hc => ⟨cur, e, f, by rw [← hh]; exact hc, rfl⟩
  frame := fun _ _ _ _ => by rw [hh]
  new := fun id k h1 h2 => by rw [h1] at h2; cases h2
  newU := fun id k h1 h2 => by rw [h1] at h2; cases h2
  os := o1
  tape := o2
  output := o3

/-- What lies under a name goes on to lie there, where the world's heap has not turned. -/
theorem Rel.world {m : Nm} {h : Hp} {w w' : World} (rel : Rel m h w) (hh : w'.heap = w.heap) (o1 : w'.os = w.os) (o2 : w'.tape = w.tape) (o3 : w'.output = w.output) : Rel m h w' where
  own := fun id k hk => by
    obtain ⟨cur, h1, h2, h3, h4⟩ := rel.own id k hk
    exact ⟨cur, by rw [hh]; exact h1, h2, h3, fun i j row c a b => let ⟨v, x, y⟩ := h4 i j row c a b; ⟨v, x, y.mono rel (Ev.world hh o1 o2 o3)⟩⟩
  sep := rel.sep
  sepR := rel.sepR
  sepU := rel.sepU
  bound := fun r g h1 h2 => by rw [hh]; exact rel.bound r g h1 h2
  free := fun r g h1 h2 => by rw [hh]; exact rel.free r g h1 h2

/-- A new block. -/
theorem Rel.alloc {m : Nm} {h : Hp} {w w' : World} (rel : Rel m h w) {id : Nat} (hu : h id = .unused) (k : Blk) (cur : Array Value) (hh : w'.heap = w.heap.push (.cells cur k.elem (0, 0)))
    (o1 : w'.os = w.os) (o2 : w'.tape = w.tape) (o3 : w'.output = w.output) (hsz : k.rows.length * k.sz ≤ cur.size) (hrow : ∀ row, row ∈ k.rows → row.length = k.sz)
    (hc : ∀ (i j : Nat) (row : List AV) (c : AV), k.rows[i]? = some row → row[j]? = some c → ∃ v, cur[i * k.sz + j]? = some v ∧ R m h w c v) :
    Rel (m.at id (w.heap.size, 0)) (h.upd id (.live k)) w' ∧ Ev m h w (m.at id (w.heap.size, 0)) (h.upd id (.live k)) w' := by
  have hne : ∀ x, h x ≠ .unused → x ≠ id := fun x hx e => hx (e ▸ hu)
  have hup : ∀ x, x ≠ id → (h.upd id (.live k)) x = h x := fun x hx => Hp.upd_ne h _ hx
  have old : ∀ g, g < w.heap.size → w'.heap[g]? = w.heap[g]? := fun g hg => by rw [hh, Array.getElem?_push, if_neg (by omega)]
  have ltO : ∀ x k', h x = .live k' → (m.pl x).1 < w.heap.size := fun x k' hx => by
    obtain ⟨c, h1, _⟩ := rel.own x k' hx
    exact (Array.getElem?_eq_some_iff.1 h1).1
  have ev : Ev m h w (m.at id (w.heap.size, 0)) (h.upd id (.live k)) w' := by
    refine ⟨fun x hx => Nm.at_ne m _ (hne x hx), fun x hx => rfl, fun x => ?_, by rw [hh]; simp, ?_, fun g hg _ _ => old g hg, ?_, ?_, o1, o2, o3⟩
    · by_cases hx : x = id
      · subst hx; rw [hu]; trivial
      · rw [hup x hx]; exact Own.goes_refl _
    · intro x k1 k2 h1 h2 c e f hcc
      exact ⟨c, e, f, by rw [← old _ (ltO x k1 h1)]; exact hcc, rfl⟩
    · intro x k1 h1 h2
      by_cases hx : x = id
      · subst hx; left; rw [Nm.at_same]; exact Nat.le_refl _
      · rw [hup x hx, h1] at h2; cases h2
    · intro r g h1 h2 hs
      by_cases hx : r = id
      · subst hx; rw [Hp.upd_same] at h2; cases h2
      · rw [hup r hx, h1] at h2; cases h2
  refine ⟨⟨?_, ?_, ?_, ?_, ?_, ?_⟩, ev⟩
  · intro x k1 h1
    by_cases hx : x = id
    · subst hx
      rw [Hp.upd_same] at h1
      cases h1
      rw [Nm.at_same]
      refine ⟨cur, by rw [hh]; simp, by simpa using hsz, hrow, fun i j row c a b => ?_⟩
      obtain ⟨v, hv, hR⟩ := hc i j row c a b
      exact ⟨v, by simpa using hv, hR.mono rel ev⟩
    · rw [hup x hx] at h1
      rw [Nm.at_ne m _ hx]
      obtain ⟨c0, h2, h3, h4, h5⟩ := rel.own x k1 h1
      exact ⟨c0, by rw [old _ (ltO x k1 h1)]; exact h2, h3, h4, fun i j row c a b => let ⟨v, p, q⟩ := h5 i j row c a b; ⟨v, p, q.mono rel ev⟩⟩
  · intro x y k1 k2 h1 h2 e
    by_cases hx : x = id
    · by_cases hy : y = id
      · rw [hx, hy]
      · rw [hup y hy] at h2
        rw [hx, Nm.at_same, Nm.at_ne m _ hy] at e
        have := ltO y k2 h2
        simp at e; omega
    · rw [hup x hx] at h1
      by_cases hy : y = id
      · rw [hy, Nm.at_same, Nm.at_ne m _ hx] at e
        have := ltO x k1 h1
        simp at e; omega
      · rw [hup y hy] at h2
        rw [Nm.at_ne m _ hx, Nm.at_ne m _ hy] at e
        exact rel.sep x y k1 k2 h1 h2 e
  · intro x k1 r h1 hr hs
    have hr0 : r ≠ id := by rintro rfl; rw [Hp.upd_same] at hr; exact hr
    rw [hup r hr0] at hr
    by_cases hx : x = id
    · rw [hx, Nm.at_same] at hs
      have := rel.bound r _ hr hs
      simp at this
    · rw [hup x hx] at h1
      rw [Nm.at_ne m _ hx] at hs
      exact rel.sepR x k1 r h1 hr hs
  · intro r r' g hr hr' hne2 hs
    have hr0 : r ≠ id := by rintro rfl; rw [Hp.upd_same] at hr; cases hr
    have hr1 : r' ≠ id := by rintro rfl; rw [Hp.upd_same] at hr'; exact hr'
    rw [hup r hr0] at hr
    rw [hup r' hr1] at hr'
    exact rel.sepU r r' g hr hr' hne2 hs
  · intro r g hr hs
    have hr0 : r ≠ id := by rintro rfl; rw [Hp.upd_same] at hr; exact hr
    rw [hup r hr0] at hr
    have := rel.bound r g hr hs
    rw [hh]; simp; omega
  · intro r g hr hs
    have hr0 : r ≠ id := by rintro rfl; rw [Hp.upd_same] at hr; cases hr
    rw [hup r hr0] at hr
    have := rel.bound r g (by rw [hr]; trivial) hs
    rw [old g this]
    exact rel.free r g hr hs

/-- A block of the call's own is written. -/
theorem Rel.write {m : Nm} {h : Hp} {w w' : World} (rel : Rel m h w) {b : Nat} {k : Blk} (hb : h b = .live k) (cur cur' : Array Value) (hcur : w.heap[(m.pl b).1]? = some (.cells cur k.elem (0, 0)))
    (rows' : List (List AV)) (hh : w'.heap[(m.pl b).1]? = some (.cells cur' k.elem (0, 0))) (hs : cur'.size = cur.size) (hsz : w'.heap.size = w.heap.size) (far : ∀ g, g ≠ (m.pl b).1 → w'.heap[g]? = w.heap[g]?)
    (o1 : w'.os = w.os) (o2 : w'.tape = w.tape) (o3 : w'.output = w.output) (hl : k.rows.length ≤ rows'.length) (hfit : (m.pl b).2 + rows'.length * k.sz ≤ cur.size) (hrow : ∀ row, row ∈ rows' → row.length = k.sz)
    (hc : ∀ (i j : Nat) (row : List AV) (c : AV), rows'[i]? = some row → row[j]? = some c → ∃ v, cur'[(m.pl b).2 + i * k.sz + j]? = some v ∧ R m h w c v) :
    Rel m (h.upd b (.live { k with rows := rows' })) w' ∧ Ev m h w m (h.upd b (.live { k with rows := rows' })) w' := by
  have hup : ∀ x, x ≠ b → (h.upd b (.live { k with rows := rows' })) x = h x := fun x hx => Hp.upd_ne h _ hx
  have farO : ∀ x k', h x = .live k' → x ≠ b → w'.heap[(m.pl x).1]? = w.heap[(m.pl x).1]? := fun x k' hx hne => far _ fun e => hne (rel.sep x b k' k hx hb e)
  have ev : Ev m h w m (h.upd b (.live { k with rows := rows' })) w' := by
    refine ⟨fun x hx => rfl, fun x hx => rfl, fun x => ?_, by omega, ?_, fun g hg ho _ => far g (fun e => ho b k hb e.symm), ?_, ?_, o1, o2, o3⟩
    · by_cases hx : x = b
      · subst hx; rw [hb, Hp.upd_same]; exact ⟨rfl, hl⟩
      · rw [hup x hx]; exact Own.goes_refl _
    · intro x k1 k2 h1 h2 c e f hcc
      by_cases hx : x = b
      · subst hx; rw [hh] at hcc; cases hcc; exact ⟨cur, _, _, hcur, hs.symm⟩
      · exact ⟨c, e, f, by rw [← farO x k1 h1 hx]; exact hcc, rfl⟩
    · intro x k1 h1 h2
      by_cases hx : x = b
      · subst hx; rw [hb] at h1; cases h1
      · rw [hup x hx, h1] at h2; cases h2
    · intro r g h1 h2 hss
      by_cases hx : r = b
      · subst hx; rw [hb] at h1; cases h1
      · rw [hup r hx, h1] at h2; cases h2
  have immE : ∀ r, ((h.upd b (.live { k with rows := rows' })) r).imm → (h r).imm ∧ r ≠ b := fun r hr => by
    have : r ≠ b := by rintro rfl; rw [Hp.upd_same] at hr; exact hr
    exact ⟨by rw [← hup r this]; exact hr, this⟩
  refine ⟨⟨?_, ?_, ?_, ?_, ?_, ?_⟩, ev⟩
  · intro x k1 h1
    by_cases hx : x = b
    · subst hx
      rw [Hp.upd_same] at h1
      cases h1
      refine ⟨cur', hh, by simp only [hs]; exact hfit, hrow, fun i j row c a b => ?_⟩
      obtain ⟨v, hv, hR⟩ := hc i j row c a b
      exact ⟨v, hv, hR.mono rel ev⟩
    · rw [hup x hx] at h1
      obtain ⟨c0, h2, h3, h4, h5⟩ := rel.own x k1 h1
      exact ⟨c0, by rw [farO x k1 h1 hx]; exact h2, h3, h4, fun i j row c a b => let ⟨v, p, q⟩ := h5 i j row c a b; ⟨v, p, q.mono rel ev⟩⟩
  · intro x y k1 k2 h1 h2 e
    have lv : ∀ z kz, (h.upd b (.live { k with rows := rows' })) z = .live kz → ∃ k0, h z = .live k0 := fun z kz hz => by
      by_cases hzz : z = b
      · exact ⟨k, hzz ▸ hb⟩
      · rw [hup z hzz] at hz; exact ⟨_, hz⟩
    obtain ⟨a1, b1⟩ := lv x k1 h1
    obtain ⟨a2, b2⟩ := lv y k2 h2
    exact rel.sep x y a1 a2 b1 b2 e
  · intro x k1 r h1 hr hss
    have hr1 := immE r hr
    by_cases hx : x = b
    · subst hx; exact rel.sepR x k r hb hr1.1 hss
    · rw [hup x hx] at h1; exact rel.sepR x k1 r h1 hr1.1 hss
  · intro r r' g hr hr' hne2 hss
    have h1 := immE r (by rw [hr]; trivial)
    have h2 := immE r' hr'
    rw [hup r h1.2] at hr
    exact rel.sepU r r' g hr h2.1 hne2 hss
  · intro r g hr hss
    have h1 := immE r hr
    have := rel.bound r g h1.1 hss
    omega
  · intro r g hr hss
    have h1 := immE r (by rw [hr]; trivial)
    rw [hup r h1.2] at hr
    rw [far g (fun e => rel.sepR b k r hb h1.1 (e ▸ hss))]
    exact rel.free r g hr hss

/-- A block is handed to another name (from some cell on), and written: what 'append' does where there is room. -/
theorem Rel.move {m : Nm} {h : Hp} {w w' : World} (rel : Rel m h w) {b id : Nat} {k : Blk} (hb : h b = .live k) (hu : h id = .unused) (off : Nat) (cur cur' : Array Value)
    (hcur : w.heap[(m.pl b).1]? = some (.cells cur k.elem (0, 0))) (k' : Blk) (he : k'.elem = k.elem) (hh : w'.heap[(m.pl b).1]? = some (.cells cur' k.elem (0, 0))) (hs : cur'.size = cur.size) (hsz : w'.heap.size = w.heap.size)
    (far : ∀ g, g ≠ (m.pl b).1 → w'.heap[g]? = w.heap[g]?) (o1 : w'.os = w.os) (o2 : w'.tape = w.tape) (o3 : w'.output = w.output) (hfit : off + k'.rows.length * k'.sz ≤ cur.size) (hrow : ∀ row, row ∈ k'.rows → row.length = k'.sz)
    (hc : ∀ (i j : Nat) (row : List AV) (c : AV), k'.rows[i]? = some row → row[j]? = some c → ∃ v, cur'[off + i * k'.sz + j]? = some v ∧ R m h w c v) :
    Rel (m.at id ((m.pl b).1, off)) ((h.upd b .dead).upd id (.live k')) w' ∧ Ev m h w (m.at id ((m.pl b).1, off)) ((h.upd b .dead).upd id (.live k')) w' := by
  have hbi : b ≠ id := by rintro rfl; rw [hb] at hu; cases hu
  have hib : id ≠ b := Ne.symm hbi
  have hup : ∀ x, x ≠ b → x ≠ id → ((h.upd b .dead).upd id (.live k')) x = h x := fun x hx hy => by rw [Hp.upd_ne _ _ hy, Hp.upd_ne _ _ hx]
  have hupb : ((h.upd b .dead).upd id (.live k')) b = .dead := by rw [Hp.upd_ne _ _ hbi, Hp.upd_same]
  have farO : ∀ x kx, h x = .live kx → x ≠ b → w'.heap[(m.pl x).1]? = w.heap[(m.pl x).1]? := fun x kx hx hne => far _ fun e => hne (rel.sep x b kx k hx hb e)
  have ev : Ev m h w (m.at id ((m.pl b).1, off)) ((h.upd b .dead).upd id (.live k')) w' := by
    refine ⟨fun x hx => Nm.at_ne m _ (by rintro rfl; exact hx hu), fun x hx => rfl, fun x => ?_, by omega, ?_, fun g hg ho _ => far g (fun e => ho b k hb e.symm), ?_, ?_, o1, o2, o3⟩
    · by_cases hx : x = b
      · subst hx; rw [hb, hupb]; trivial
      · by_cases hy : x = id
        · subst hy; rw [hu]; trivial
        · rw [hup x hx hy]; exact Own.goes_refl _
    · intro x k1 k2 h1 h2 c e f hcc
      by_cases hx : x = b
      · subst hx; rw [hupb] at h2; cases h2
      · exact ⟨c, e, f, by rw [← farO x k1 h1 hx]; exact hcc, rfl⟩
    · intro x k1 h1 h2
      by_cases hx : x = b
      · subst hx; rw [hb] at h1; cases h1
      · by_cases hy : x = id
        · subst hy; right; left; exact ⟨b, k, hb, by rw [Nm.at_same]⟩
        · rw [hup x hx hy, h1] at h2; cases h2
    · intro r g h1 h2 hss
      by_cases hx : r = b
      · subst hx; rw [hb] at h1; cases h1
      · by_cases hy : r = id
        · subst hy; rw [Hp.upd_same] at h2; cases h2
        · rw [hup r hx hy, h1] at h2; cases h2
  have immE : ∀ r, (((h.upd b .dead).upd id (.live k')) r).imm → (h r).imm ∧ r ≠ b ∧ r ≠ id := fun r hr => by
    have h1 : r ≠ b := by rintro rfl; rw [hupb] at hr; exact hr
    have h2 : r ≠ id := by rintro rfl; rw [Hp.upd_same] at hr; exact hr
    exact ⟨by rw [← hup r h1 h2]; exact hr, h1, h2⟩
  refine ⟨⟨?_, ?_, ?_, ?_, ?_, ?_⟩, ev⟩
  · intro x k1 h1
    by_cases hx : x = b
    · subst hx; rw [hupb] at h1; cases h1
    by_cases hy : x = id
    · subst hy
      rw [Hp.upd_same] at h1
      cases h1
      rw [Nm.at_same]
      refine ⟨cur', by rw [he]; exact hh, by simp only [hs]; exact hfit, hrow, fun i j row c a b => ?_⟩
      obtain ⟨v, hv, hR⟩ := hc i j row c a b
      exact ⟨v, hv, hR.mono rel ev⟩
    · rw [hup x hx hy] at h1
      rw [Nm.at_ne m _ hy]
      obtain ⟨c0, h2, h3, h4, h5⟩ := rel.own x k1 h1
      exact ⟨c0, by rw [farO x k1 h1 hx]; exact h2, h3, h4, fun i j row c a b => let ⟨v, p, q⟩ := h5 i j row c a b; ⟨v, p, q.mono rel ev⟩⟩
  · intro x y k1 k2 h1 h2 e
    have hxb : x ≠ b := by rintro rfl; rw [hupb] at h1; cases h1
    have hyb : y ≠ b := by rintro rfl; rw [hupb] at h2; cases h2
    by_cases hx : x = id
    · by_cases hy : y = id
      · rw [hx, hy]
      · rw [hup y hyb hy] at h2
        rw [hx, Nm.at_same, Nm.at_ne m _ hy] at e
        exact absurd (rel.sep b y k k2 hb h2 e) (Ne.symm hyb)
    · rw [hup x hxb hx] at h1
      by_cases hy : y = id
      · rw [hy, Nm.at_same, Nm.at_ne m _ hx] at e
        exact absurd (rel.sep x b k1 k h1 hb e) hxb
      · rw [hup y hyb hy] at h2
        rw [Nm.at_ne m _ hx, Nm.at_ne m _ hy] at e
        exact rel.sep x y k1 k2 h1 h2 e
  · intro x k1 r h1 hr hss
    have hr1 := immE r hr
    have hxb : x ≠ b := by rintro rfl; rw [hupb] at h1; cases h1
    by_cases hx : x = id
    · rw [hx, Nm.at_same] at hss; exact rel.sepR b k r hb hr1.1 hss
    · rw [hup x hxb hx] at h1; rw [Nm.at_ne m _ hx] at hss; exact rel.sepR x k1 r h1 hr1.1 hss
  · intro r r' g hr hr' hne2 hss
    have h1 := immE r (by rw [hr]; trivial)
    have h2 := immE r' hr'
    rw [hup r h1.2.1 h1.2.2] at hr
    exact rel.sepU r r' g hr h2.1 hne2 hss
  · intro r g hr hss
    have h1 := immE r hr
    have := rel.bound r g h1.1 hss
    omega
  · intro r g hr hss
    have h1 := immE r (by rw [hr]; trivial)
    rw [hup r h1.2.1 h1.2.2] at hr
    rw [far g (fun e => rel.sepR b k r hb h1.1 (e ▸ hss))]
    exact rel.free r g hr hss
end Go.Proofs.Ytjmjnndmpeeppaa

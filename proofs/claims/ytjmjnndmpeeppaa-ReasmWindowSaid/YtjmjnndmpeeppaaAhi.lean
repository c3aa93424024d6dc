/- A heap of names over the machine's heap: what a value is as data, in blocks of a call's own or in memory that stays as it is; the laws of its change. No condition. -/
import Derived.Orders
import Derived.WalkKit
import Derived.WalkLawsBesides
import Derived.Below
import Derived.KernelRfl
namespace Go.Proofs.Ytjmjnndmpeeppaa
open Go.RowKit
set_option linter.unusedVariables false
set_option linter.unusedSimpArgs false

/-- a value as data -/
inductive AV where
  | any
  | val (v : Value)
  | agg (cs : List AV)
  | tup (vs : List AV)
  | ptr (b i j : Nat)
  | sl (b i n : Nat)
  | list (r sz : Nat) (rows : List (List AV))
  | glist (r sz : Nat) (rows : List (List AV))
  | lptr (r : Nat) (row : List AV) (j : Nat)
  | clo (f : FuncId) (caps : List AV)
  deriving Inhabited

/-- a block of the call's own: rows of so many cells -/
structure Blk where
  sz : Nat
  elem : TypeId
  rows : List (List AV)

/-- what a name stands for -/
inductive Own where
  | unused
  | dead
  | live (b : Blk)
  | perm
  | uniq

/-- memory that stays as it is -/
def Own.imm : Own → Prop
  | .perm => True
  | .uniq => True
  | _ => False

abbrev Hp := Nat → Own
def Hp.upd (h : Hp) (id : Nat) (o : Own) : Hp := fun k => if k = id then o else h k
def Hp.upds (h : Hp) : List (Nat × Own) → Hp
  | [] => h
  | p :: T => Hp.upds (h.upd p.1 p.2) T

theorem Hp.upd_same (h : Hp) (id : Nat) (o : Own) : h.upd id o id = o := by simp [Hp.upd]
theorem Hp.upd_ne (h : Hp) {id k : Nat} (o : Own) (hk : k ≠ id) : h.upd id o k = h k := by simp [Hp.upd, hk]

/-- where the names lie -/
structure Nm where
  pl : Nat → Nat × Nat
  set : Nat → Nat → Prop

/-- A value reads as data. -/
inductive R (m : Nm) (h : Hp) (w : World) : AV → Value → Prop
  | any (v : Value) : R m h w .any v
  | val (v : Value) : R m h w (.val v) v
  | agg (cs : List AV) (vs : Array Value) (hl : cs.length = vs.size) (hc : ∀ (i : Nat) (c : AV) (v : Value), cs[i]? = some c → vs[i]? = some v → R m h w c v) : R m h w (.agg cs) (.agg vs)
  | tup (cs : List AV) (vs : Array Value) (hl : cs.length = vs.size) (hc : ∀ (i : Nat) (c : AV) (v : Value), cs[i]? = some c → vs[i]? = some v → R m h w c v) : R m h w (.tup cs) (.tuple vs)
  | ptr (b i j : Nat) (k : Blk) (hb : h b = .live k) : R m h w (.ptr b i j) (.pointer (some ⟨(m.pl b).1, (m.pl b).2 + i * k.sz + j, none⟩))
  | ptrD (b i j : Nat) (v : Value) (hb : h b = .dead) (h1 : v.oneCell' = true) : R m h w (.ptr b i j) v
  | sl (b i n : Nat) (k : Blk) (hb : h b = .live k) (off cap : Nat) (hn : i + n ≤ k.rows.length) (hc : n ≤ cap) (hm : cap ≤ maxLen) (ho : cap ≠ 0 → off = (m.pl b).2 + i * k.sz)
      (hz : ∀ (cur : Array Value) (e : TypeId) (f : Nat × Nat), w.heap[(m.pl b).1]? = some (.cells cur e f) → cap ≠ 0 → (m.pl b).2 + (i + cap) * k.sz ≤ cur.size) : R m h w (.sl b i n) (.slice (some ⟨(m.pl b).1, off, none⟩) n cap)
  | slD (b i n : Nat) (v : Value) (hb : h b = .dead) (h1 : v.oneCell' = true) : R m h w (.sl b i n) v
  | nil (r sz : Nat) : R m h w (.list r sz []) (.slice none 0 0)
  | emp (r sz cap : Nat) (a : Addr) (hr : (h r).imm) (hm : cap ≤ maxLen) : R m h w (.list r sz []) (.slice (some a) 0 cap)
  | gnil (r sz : Nat) : R m h w (.glist r sz []) (.slice none 0 0)
  | glist (r sz : Nat) (rows : List (List AV)) (hr : (h r).imm) (g off cap : Nat) (hg : m.set r g) (hc : rows.length ≤ cap) (hm : cap ≤ maxLen) (hw : ∀ row, row ∈ rows → row.length = sz)
      (hz : cap ≠ 0 → ∀ (cur : Array Value) (e : TypeId) (f : Nat × Nat), w.heap[g]? = some (.cells cur e f) → off + cap * sz ≤ cur.size)
      (f : Nat → Nat → Value) (hf : ∀ (i j : Nat) (row : List AV) (c : AV), rows[i]? = some row → row[j]? = some c → w.cell? ⟨g, off + i * sz + j, none⟩ = some (f i j)) (hR : ∀ (i j : Nat) (row : List AV) (c : AV), rows[i]? = some row → row[j]? = some c → R m h w c (f i j)) :
      R m h w (.glist r sz rows) (.slice (some ⟨g, off, none⟩) rows.length cap)
  | gemp (r sz : Nat) (a : Addr) (hr : (h r).imm) : R m h w (.glist r sz []) (.slice (some a) 0 0)
  | glistD (r sz : Nat) (rows : List (List AV)) (v : Value) (hr : h r = .dead) (h1 : v.oneCell' = true) : R m h w (.glist r sz rows) v
  | list (r sz : Nat) (rows : List (List AV)) (hr : (h r).imm) (g off cap : Nat) (hg : m.set r g) (hc : rows.length ≤ cap) (hm : cap ≤ maxLen) (hw : ∀ row, row ∈ rows → row.length = sz)
      (f : Nat → Nat → Value) (hf : ∀ (i j : Nat) (row : List AV) (c : AV), rows[i]? = some row → row[j]? = some c → w.cell? ⟨g, off + i * sz + j, none⟩ = some (f i j)) (hR : ∀ (i j : Nat) (row : List AV) (c : AV), rows[i]? = some row → row[j]? = some c → R m h w c (f i j)) :
      R m h w (.list r sz rows) (.slice (some ⟨g, off, none⟩) rows.length cap)
  | listD (r sz : Nat) (rows : List (List AV)) (v : Value) (hr : h r = .dead) (h1 : v.oneCell' = true) : R m h w (.list r sz rows) v
  | lptr (r : Nat) (row : List AV) (j : Nat) (hr : (h r).imm) (g off : Nat) (hg : m.set r g) (f : Nat → Value) (hf : ∀ (j : Nat) (c : AV), row[j]? = some c → w.cell? ⟨g, off + j, none⟩ = some (f j))
      (hR : ∀ (j : Nat) (c : AV), row[j]? = some c → R m h w c (f j)) : R m h w (.lptr r row j) (.pointer (some ⟨g, off + j, none⟩))
  | lptrD (r : Nat) (row : List AV) (j : Nat) (v : Value) (hr : h r = .dead) (h1 : v.oneCell' = true) : R m h w (.lptr r row j) v
  | clo (f : FuncId) (caps : List AV) (vs : Array Value) (hl : caps.length = vs.size) (hc : ∀ (i : Nat) (c : AV) (v : Value), caps[i]? = some c → vs[i]? = some v → R m h w c v) : R m h w (.clo f caps) (.func (.func f) #[] vs)

/-- The names lie in the world as they should. -/
structure Rel (m : Nm) (h : Hp) (w : World) : Prop where
  own : ∀ id k, h id = .live k → ∃ cur, w.heap[(m.pl id).1]? = some (.cells cur k.elem (0, 0)) ∧ (m.pl id).2 + k.rows.length * k.sz ≤ cur.size ∧
    (∀ row, row ∈ k.rows → row.length = k.sz) ∧ ∀ (i j : Nat) (row : List AV) (c : AV), k.rows[i]? = some row → row[j]? = some c → ∃ v, cur[(m.pl id).2 + i * k.sz + j]? = some v ∧ R m h w c v
  sep : ∀ id id' k k', h id = .live k → h id' = .live k' → (m.pl id).1 = (m.pl id').1 → id = id'
  sepR : ∀ id k r, h id = .live k → (h r).imm → ¬ m.set r (m.pl id).1
  sepU : ∀ r r' g, h r = .uniq → (h r').imm → r ≠ r' → m.set r g → ¬ m.set r' g
  bound : ∀ r g, (h r).imm → m.set r g → g < w.heap.size
  free : ∀ r g, h r = .uniq → m.set r g → ∃ cur e, w.heap[g]? = some (.cells cur e (0, 0))

/-- how a name may go on -/
def Own.goes : Own → Own → Prop
  | .unused, _ => True
  | _, .dead => True
  | .perm, .perm => True
  | .uniq, .uniq => True
  | .live k, .live k' => k'.sz = k.sz ∧ k.rows.length ≤ k'.rows.length
  | _, _ => False

/-- How the names and the world may go on. -/
structure Ev (m : Nm) (h : Hp) (w : World) (m' : Nm) (h' : Hp) (w' : World) : Prop where
  pl : ∀ id, h id ≠ .unused → m'.pl id = m.pl id
  set : ∀ id, h id ≠ .unused → m'.set id = m.set id
  kind : ∀ id, (h id).goes (h' id)
  size : w.heap.size ≤ w'.heap.size
  cells : ∀ id k k', h id = .live k → h' id = .live k' → ∀ (cur : Array Value) (e : TypeId) (f : Nat × Nat), w'.heap[(m.pl id).1]? = some (.cells cur e f) → ∃ cur0 e0 f0, w.heap[(m.pl id).1]? = some (.cells cur0 e0 f0) ∧ cur0.size = cur.size
  frame : ∀ g, g < w.heap.size → (∀ id k, h id = .live k → (m.pl id).1 ≠ g) → (∀ r, h r = .uniq → m.set r g → h' r = .uniq) → w'.heap[g]? = w.heap[g]?
  new : ∀ id k, h id = .unused → h' id = .live k → w.heap.size ≤ (m'.pl id).1 ∨ (∃ i k, h i = .live k ∧ (m.pl i).1 = (m'.pl id).1) ∨ ∃ r, h r = .uniq ∧ h' r = .dead ∧ m.set r (m'.pl id).1
  newU : ∀ r g, h r = .unused → h' r = .uniq → m'.set r g → w.heap.size ≤ g ∨ (∃ i k, h i = .live k ∧ (m.pl i).1 = g) ∨ ∃ r, h r = .uniq ∧ h' r = .dead ∧ m.set r g
  os : w'.os = w.os
  tape : w'.tape = w.tape
  output : w'.output = w.output

theorem Own.goes_refl (o : Own) : o.goes o := by cases o <;> simp [Own.goes]
theorem Own.goes_imm {o o' : Own} (h : o.goes o') (hi : o'.imm) (hn : o ≠ .unused) : o' = o := by
  cases o <;> cases o' <;> simp_all [Own.goes, Own.imm]
theorem Own.goes_trans {a b c : Own} (h1 : a.goes b) (h2 : b.goes c) (hb : a ≠ .unused → b ≠ .unused) : a.goes c := by
  cases a <;> cases b <;> cases c <;> simp_all [Own.goes]
  omega
theorem Own.goes_used {a b : Own} (h1 : a.goes b) (ha : a ≠ .unused) : b ≠ .unused := by
  cases a <;> cases b <;> simp_all [Own.goes]

/-- a block of memory that stays is as it was -/
theorem Ev.imm {m m' : Nm} {h h' : Hp} {w w' : World} (rel : Rel m h w) (ev : Ev m h w m' h' w') {r g : Nat} (hr : (h r).imm) (hr' : (h' r).imm) (hg : m.set r g) : w'.heap[g]? = w.heap[g]? := by
  have hn : h r ≠ .unused := by intro e; rw [e] at hr; exact hr
  have he : h' r = h r := Own.goes_imm (ev.kind r) hr' hn
  refine ev.frame g (rel.bound r g hr hg) (fun id k hk e => rel.sepR id k r hk hr (e ▸ hg)) (fun r' hr2 hg' => ?_)
  by_cases e : r' = r
  · subst e; rw [he]; exact hr2
  · exact absurd hg (rel.sepU r' r g hr2 hr e hg')

theorem cell_of_heap {w w' : World} {g o : Nat} (e : w'.heap[g]? = w.heap[g]?) : w'.cell? ⟨g, o, none⟩ = w.cell? ⟨g, o, none⟩ := by simp [World.cell?, e]

/-- What reads as data goes on to read as data. -/
theorem R.mono {m m' : Nm} {h h' : Hp} {w w' : World} (rel : Rel m h w) (ev : Ev m h w m' h' w') {av : AV} {v : Value} (hR : R m h w av v) : R m' h' w' av v := by
  induction hR with
  | any v => exact .any v
  | val v => exact .val v
  | agg cs vs hl hc ih => exact .agg cs vs hl ih
  | tup cs vs hl hc ih => exact .tup cs vs hl ih
  | ptr b i j k hb =>
    have hu : h b ≠ .unused := by rw [hb]; simp
    have hk := ev.kind b
    rw [hb] at hk
    cases hb' : h' b with
    | dead => exact .ptrD b i j _ hb' rfl
    | live k' =>
      rw [hb'] at hk
      have := R.ptr (m := m') (h := h') (w := w') b i j k' hb'
      rw [ev.pl b hu, hk.1] at this
      exact this
    | unused => rw [hb'] at hk; exact hk.elim
    | perm => rw [hb'] at hk; exact hk.elim
    | uniq => rw [hb'] at hk; exact hk.elim
  | ptrD b i j v hb h1 =>
    have hk := ev.kind b
    rw [hb] at hk
    cases hb' : h' b <;> rw [hb'] at hk <;> first | exact .ptrD b i j _ hb' h1 | exact hk.elim
  | sl b i n k hb off cap hn hc hm ho hz =>
    have hu : h b ≠ .unused := by rw [hb]; simp
    have hk := ev.kind b
    rw [hb] at hk
    cases hb' : h' b with
    | dead => exact .slD b i n _ hb' rfl
    | live k' =>
      rw [hb'] at hk
      have := R.sl (m := m') (h := h') (w := w') b i n k' hb' off cap (by have := hk.2; omega) hc hm (by rw [ev.pl b hu, hk.1]; exact ho)
        (by
          intro cur e f hcur hcap
          rw [ev.pl b hu] at hcur ⊢
          obtain ⟨cur0, e0, f0, h0, hs⟩ := ev.cells b k k' hb hb' cur e f hcur
          have := hz cur0 e0 f0 h0 hcap
          rw [hk.1, ← hs]; exact this)
      rw [ev.pl b hu] at this
      exact this
    | unused => rw [hb'] at hk; exact hk.elim
    | perm => rw [hb'] at hk; exact hk.elim
    | uniq => rw [hb'] at hk; exact hk.elim
  | slD b i n v hb h1 =>
    have hk := ev.kind b
    rw [hb] at hk
    cases hb' : h' b <;> rw [hb'] at hk <;> first | exact .slD b i n _ hb' h1 | exact hk.elim
  | nil r sz => exact .nil r sz
  | emp r sz cap a hr hm =>
    have hu : h r ≠ .unused := by intro e; rw [e] at hr; exact hr
    have hk := ev.kind r
    by_cases hr' : (h' r).imm
    · exact .emp r sz cap a hr' hm
    · refine .listD r sz [] _ ?_ rfl
      cases hh : h r <;> cases hh' : h' r <;> rw [hh, hh'] at hk <;> simp_all [Own.goes, Own.imm]
  | gnil r sz => exact .gnil r sz
  | gemp r sz a hr =>
    have hu : h r ≠ .unused := by intro e; rw [e] at hr; exact hr
    have hk := ev.kind r
    by_cases hr' : (h' r).imm
    · exact .gemp r sz a hr'
    · refine .glistD r sz [] _ ?_ rfl
      cases hh : h r <;> cases hh' : h' r <;> rw [hh, hh'] at hk <;> simp_all [Own.goes, Own.imm]
  | glist r sz rows hr g off cap hg hc hm hw hz f hf hRR ih =>
    have hu : h r ≠ .unused := by intro e; rw [e] at hr; exact hr
    have hk := ev.kind r
    by_cases hr' : (h' r).imm
    · have e := ev.imm rel hr hr' hg
      exact .glist r sz rows hr' g off cap (by rw [ev.set r hu]; exact hg) hc hm hw (fun c0 cur e2 f2 hc2 => hz c0 cur e2 f2 (by rw [← e]; exact hc2)) f (fun i j row c h1 h2 => (cell_of_heap e).trans (hf i j row c h1 h2)) ih
    · refine .glistD r sz rows _ ?_ rfl
      cases hh : h r <;> cases hh' : h' r <;> rw [hh, hh'] at hk <;> simp_all [Own.goes, Own.imm]
  | glistD r sz rows v hr h1 =>
    have hk := ev.kind r
    rw [hr] at hk
    cases hb' : h' r <;> rw [hb'] at hk <;> first | exact .glistD r sz rows _ hb' h1 | exact hk.elim
  | list r sz rows hr g off cap hg hc hm hw f hf hRR ih =>
    have hu : h r ≠ .unused := by intro e; rw [e] at hr; exact hr
    have hk := ev.kind r
    by_cases hr' : (h' r).imm
    · have e := ev.imm rel hr hr' hg
      exact .list r sz rows hr' g off cap (by rw [ev.set r hu]; exact hg) hc hm hw f (fun i j row c h1 h2 => (cell_of_heap e).trans (hf i j row c h1 h2)) ih
    · refine .listD r sz rows _ ?_ rfl
      cases hh : h r <;> cases hh' : h' r <;> rw [hh, hh'] at hk <;> simp_all [Own.goes, Own.imm]
  | listD r sz rows v hr h1 =>
    have hk := ev.kind r
    rw [hr] at hk
    cases hb' : h' r <;> rw [hb'] at hk <;> first | exact .listD r sz rows _ hb' h1 | exact hk.elim
  | lptr r row j hr g off hg f hf hRR ih =>
    have hu : h r ≠ .unused := by intro e; rw [e] at hr; exact hr
    have hk := ev.kind r
    by_cases hr' : (h' r).imm
    · have e := ev.imm rel hr hr' hg
      exact .lptr r row j hr' g off (by rw [ev.set r hu]; exact hg) f (fun j c h1 => (cell_of_heap e).trans (hf j c h1)) ih
    · refine .lptrD r row j _ ?_ rfl
      cases hh : h r <;> cases hh' : h' r <;> rw [hh, hh'] at hk <;> simp_all [Own.goes, Own.imm]
  | lptrD r row j v hr h1 =>
    have hk := ev.kind r
    rw [hr] at hk
    cases hb' : h' r <;> rw [hb'] at hk <;> first | exact .lptrD r row j _ hb' h1 | exact hk.elim
  | clo f caps vs hl hc ih => exact .clo f caps vs hl ih

theorem Ev.refl (m : Nm) (h : Hp) (w : World) : Ev m h w m h w where
  pl := fun _ _ => rfl
  set := fun _ _ => rfl
  kind := fun _ => Own.goes_refl _
  size := Nat.le_refl _
  cells := fun id k k' h1 h2 cur e f hc => ⟨cur, e, f, hc, rfl⟩
  frame := fun _ _ _ _ => rfl
  new := fun id k h1 h2 => by rw [h1] at h2; cases h2
  newU := fun id k h1 h2 => by rw [h1] at h2; cases h2
  os := rfl
  tape := rfl
  output := rfl

theorem Ev.trans {m1 m2 m3 : Nm} {h1 h2 h3 : Hp} {w1 w2 w3 : World} (rel : Rel m1 h1 w1) (a : Ev m1 h1 w1 m2 h2 w2) (b : Ev m2 h2 w2 m3 h3 w3) : Ev m1 h1 w1 m3 h3 w3 := by
  have used : ∀ id, h1 id ≠ .unused → h2 id ≠ .unused := fun id h => Own.goes_used (a.kind id) h
  have live2 : ∀ id k, h1 id ≠ .unused → h2 id = .live k → ∃ k0, h1 id = .live k0 := fun id k hu hk => by
    have := a.kind id
    rw [hk] at this
    cases hh : h1 id <;> rw [hh] at this <;> first | exact ⟨_, rfl⟩ | exact absurd hh hu | exact this.elim
  have dead3 : ∀ r, h2 r = .dead → h3 r = .dead := fun r h => by
    have := b.kind r
    rw [h] at this
    cases hh : h3 r <;> rw [hh] at this <;> first | rfl | exact this.elim
  have uniq1 : ∀ r, h1 r ≠ .unused → h2 r = .uniq → h1 r = .uniq := fun r hu hk => by
    have := a.kind r
    rw [hk] at this
    cases hh : h1 r <;> rw [hh] at this <;> first | rfl | exact absurd hh hu | exact this.elim
  have uniq2 : ∀ r, h1 r = .uniq → h3 r = .uniq → h2 r = .uniq := fun r hu h3u => by
    have k1 := a.kind r
    have k2 := b.kind r
    rw [hu] at k1
    rw [h3u] at k2
    cases hh : h2 r <;> rw [hh] at k1 k2 <;> first | rfl | exact k1.elim | exact k2.elim
  -- a block that is nobody's of the first, and in no region that was struck, is nobody's of the second
  have far : ∀ g, g < w1.heap.size → (∀ id k, h1 id = .live k → (m1.pl id).1 ≠ g) → (∀ r, h1 r = .uniq → m1.set r g → h3 r = .uniq) →
      (∀ id k, h2 id = .live k → (m2.pl id).1 ≠ g) ∧ (∀ r, h2 r = .uniq → m2.set r g → h3 r = .uniq) := fun g hg ho hu => by
    refine ⟨fun id k hk e => ?_, fun r hr hs => ?_⟩
    · by_cases h0 : h1 id = .unused
      · rcases a.new id k h0 hk with h | ⟨i, k, hi, e2⟩ | ⟨r, hr, hd, hs⟩
        · omega
        · exact ho i k hi (e2.trans e)
        · rw [e] at hs
          have := hu r hr hs
          rw [dead3 r hd] at this; cases this
      · obtain ⟨k0, hk0⟩ := live2 id k h0 hk
        rw [a.pl id h0] at e
        exact ho id k0 hk0 e
    · by_cases h0 : h1 r = .unused
      · rcases a.newU r g h0 hr hs with h | ⟨i, k, hi, e2⟩ | ⟨r2, hr2, hd, hs2⟩
        · omega
        · exact absurd e2 (ho i k hi)
        · have := hu r2 hr2 hs2
          rw [dead3 r2 hd] at this; cases this
      · rw [a.set r h0] at hs
        exact hu r (uniq1 r h0 hr) hs
  refine ⟨fun id h => (b.pl id (used id h)).trans (a.pl id h), fun id h => (b.set id (used id h)).trans (a.set id h), fun id => Own.goes_trans (a.kind id) (b.kind id) (used id), Nat.le_trans a.size b.size, ?_, ?_, ?_, ?_,
    b.os.trans a.os, b.tape.trans a.tape, b.output.trans a.output⟩
  · intro id k k3 hk hk3 cur e f hc
    have hu : h1 id ≠ .unused := by rw [hk]; simp
    have k1 := a.kind id
    have k2 := b.kind id
    rw [hk] at k1
    rw [hk3] at k2
    cases hh : h2 id with
    | live k' =>
      rw [← a.pl id hu] at hc
      obtain ⟨c0, e0, f0, hc0, hs0⟩ := b.cells id k' k3 hh hk3 cur e f hc
      rw [a.pl id hu] at hc0
      obtain ⟨c1, e1, f1, hc1, hs1⟩ := a.cells id k k' hk hh c0 e0 f0 hc0
      exact ⟨c1, e1, f1, hc1, hs1.trans hs0⟩
    | unused => rw [hh] at k1; exact k1.elim
    | dead => rw [hh] at k2; exact k2.elim
    | perm => rw [hh] at k1; exact k1.elim
    | uniq => rw [hh] at k1; exact k1.elim
  · intro g hg ho hu
    obtain ⟨f1, f2⟩ := far g hg ho hu
    refine (b.frame g (Nat.lt_of_lt_of_le hg a.size) f1 f2).trans (a.frame g hg ho fun r hr hs => ?_)
    exact uniq2 r hr (hu r hr hs)
  · intro id k h0 hk
    by_cases h20 : h2 id = .unused
    · rcases b.new id k h20 hk with h | ⟨i, k2, hi, e⟩ | ⟨r, hr, hd, hs⟩
      · exact .inl (Nat.le_trans a.size h)
      · by_cases hi0 : h1 i = .unused
        · rw [← e]
          rcases a.new i k2 hi0 hi with h | h | ⟨r, hr, hd, hs⟩
          · exact .inl h
          · exact .inr (.inl h)
          · exact .inr (.inr ⟨r, hr, dead3 r hd, hs⟩)
        · obtain ⟨k0, hk0⟩ := live2 i k2 hi0 hi
          exact .inr (.inl ⟨i, k0, hk0, by rw [← e, a.pl i hi0]⟩)
      · by_cases hr0 : h1 r = .unused
        · rcases a.newU r _ hr0 hr hs with h | h | ⟨r2, hr2, hd2, hs2⟩
          · exact .inl h
          · exact .inr (.inl h)
          · exact .inr (.inr ⟨r2, hr2, dead3 r2 hd2, hs2⟩)
        · rw [a.set r hr0] at hs
          exact .inr (.inr ⟨r, uniq1 r hr0 hr, hd, hs⟩)
    · have k2 := b.kind id
      rw [hk] at k2
      cases hh : h2 id with
      | live k' =>
        rw [b.pl id h20]
        rcases a.new id k' h0 hh with h | h | ⟨r, hr, hd, hs⟩
        · exact .inl h
        · exact .inr (.inl h)
        · exact .inr (.inr ⟨r, hr, dead3 r hd, hs⟩)
      | unused => exact absurd hh h20
      | dead => rw [hh] at k2; exact k2.elim
      | perm => rw [hh] at k2; exact k2.elim
      | uniq => rw [hh] at k2; exact k2.elim
  · intro r g h0 hk hs
    by_cases h20 : h2 r = .unused
    · rcases b.newU r g h20 hk hs with h | ⟨i, k2, hi, e⟩ | ⟨r2, hr, hd, hs⟩
      · exact .inl (Nat.le_trans a.size h)
      · by_cases hi0 : h1 i = .unused
        · rw [← e]
          rcases a.new i k2 hi0 hi with h | h | ⟨r, hr, hd, hs⟩
          · exact .inl h
          · exact .inr (.inl h)
          · exact .inr (.inr ⟨r, hr, dead3 r hd, hs⟩)
        · obtain ⟨k0, hk0⟩ := live2 i k2 hi0 hi
          exact .inr (.inl ⟨i, k0, hk0, by rw [← e, a.pl i hi0]⟩)
      · by_cases hr0 : h1 r2 = .unused
        · rcases a.newU r2 _ hr0 hr hs with h | h | ⟨r3, hr3, hd3, hs3⟩
          · exact .inl h
          · exact .inr (.inl h)
          · exact .inr (.inr ⟨r3, hr3, dead3 r3 hd3, hs3⟩)
        · rw [a.set r2 hr0] at hs
          exact .inr (.inr ⟨r2, uniq1 r2 hr0 hr, hd, hs⟩)
    · have k2 := b.kind r
      rw [hk] at k2
      cases hh : h2 r with
      | uniq =>
        rw [b.set r h20] at hs
        rcases a.newU r g h0 hh hs with h | h | ⟨r2, hr, hd, hs⟩
        · exact .inl h
        · exact .inr (.inl h)
        · exact .inr (.inr ⟨r2, hr, dead3 r2 hd, hs⟩)
      | unused => exact absurd hh h20
      | dead => rw [hh] at k2; exact k2.elim
      | perm => rw [hh] at k2; exact k2.elim
      | live k => rw [hh] at k2; exact k2.elim
/-- a list that grows is a list -/
theorem R.g2l {m : Nm} {h : Hp} {w : World} {r sz : Nat} {rows : List (List AV)} {v : Value} (hR : R m h w (.glist r sz rows) v) : R m h w (.list r sz rows) v := by
  cases hR with
  | gnil => exact .nil _ _
  | gemp _ _ a hr => exact .emp _ _ 0 a hr (Nat.zero_le _)
  | glist _ _ _ hr g off cap hg hc hm hw hz f hf hRR => exact .list _ _ _ hr g off cap hg hc hm hw f hf hRR
  | glistD _ _ _ _ hr h1 => exact .listD _ _ _ _ hr h1
end Go.Proofs.Ytjmjnndmpeeppaa

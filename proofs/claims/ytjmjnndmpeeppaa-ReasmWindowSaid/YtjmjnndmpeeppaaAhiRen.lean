/- The names turned: other names for the same memory, names let go, memory of one's own that is handed over for good. No condition. -/
import Derived.Test.YtjmjnndmpeeppaaAhiAwp
namespace Go.Proofs.Ytjmjnndmpeeppaa
open Go.RowKit
set_option linter.unusedVariables false
set_option linter.unusedSimpArgs false

/-- which name goes to which: of blocks of one's own; of memory that stays; of a block that is handed over for good -/
structure Rn where
  L : Nat → Nat → Prop
  I : Nat → Nat → Prop
  F : Nat → Nat → Prop

/-- The same data under other names. -/
inductive Ren (q : Rn) (h : Hp) : AV → AV → Prop
  | any (c : AV) : Ren q h c .any
  | val (v : Value) : Ren q h (.val v) (.val v)
  | agg (cs cs' : List AV) (hl : cs.length = cs'.length) (hc : ∀ (i : Nat) (c c' : AV), cs[i]? = some c → cs'[i]? = some c' → Ren q h c c') : Ren q h (.agg cs) (.agg cs')
  | tup (cs cs' : List AV) (hl : cs.length = cs'.length) (hc : ∀ (i : Nat) (c c' : AV), cs[i]? = some c → cs'[i]? = some c' → Ren q h c c') : Ren q h (.tup cs) (.tup cs')
  | ptr (b b' i j : Nat) (hb : q.L b b') : Ren q h (.ptr b i j) (.ptr b' i j)
  | sl (b b' i n : Nat) (hb : q.L b b') : Ren q h (.sl b i n) (.sl b' i n)
  | nil (r r' sz : Nat) (hr : q.I r r') : Ren q h (.list r sz []) (.list r' sz [])
  | vnil (r sz : Nat) : Ren q h (.val (.slice none 0 0)) (.list r sz [])
  | list (r r' sz : Nat) (rows rows' : List (List AV)) (hr : q.I r r') (hl : rows.length = rows'.length) (hw : ∀ (i : Nat) (row row' : List AV), rows[i]? = some row → rows'[i]? = some row' → row.length = row'.length)
      (hc : ∀ (i j : Nat) (row row' : List AV) (c c' : AV), rows[i]? = some row → rows'[i]? = some row' → row[j]? = some c → row'[j]? = some c' → Ren q h c c') : Ren q h (.list r sz rows) (.list r' sz rows')
  | glist (r r' sz : Nat) (rows rows' : List (List AV)) (hr : q.I r r') (hl : rows.length = rows'.length) (hw : ∀ (i : Nat) (row row' : List AV), rows[i]? = some row → rows'[i]? = some row' → row.length = row'.length)
      (hc : ∀ (i j : Nat) (row row' : List AV) (c c' : AV), rows[i]? = some row → rows'[i]? = some row' → row[j]? = some c → row'[j]? = some c' → Ren q h c c') : Ren q h (.glist r sz rows) (.glist r' sz rows')
  | gl (r sz : Nat) (rows : List (List AV)) (c' : AV) (hh : Ren q h (.list r sz rows) c') : Ren q h (.glist r sz rows) c'
  | vgnil (r sz : Nat) : Ren q h (.val (.slice none 0 0)) (.glist r sz [])
  | frzg (b r i n : Nat) (k : Blk) (rows' : List (List AV)) (hr : q.F b r) (hb : h b = .live k) (hl : ((k.rows.drop i).take n).length = rows'.length) (hw : ∀ (i' : Nat) (row row' : List AV), ((k.rows.drop i).take n)[i']? = some row → rows'[i']? = some row' → row.length = row'.length)
      (hc : ∀ (i' j : Nat) (row row' : List AV) (c c' : AV), ((k.rows.drop i).take n)[i']? = some row → rows'[i']? = some row' → row[j]? = some c → row'[j]? = some c' → Ren q h c c') : Ren q h (.sl b i n) (.glist r k.sz rows')
  | frz (b r i n : Nat) (k : Blk) (rows' : List (List AV)) (hr : q.F b r) (hb : h b = .live k) (hl : ((k.rows.drop i).take n).length = rows'.length) (hw : ∀ (i' : Nat) (row row' : List AV), ((k.rows.drop i).take n)[i']? = some row → rows'[i']? = some row' → row.length = row'.length)
      (hc : ∀ (i' j : Nat) (row row' : List AV) (c c' : AV), ((k.rows.drop i).take n)[i']? = some row → rows'[i']? = some row' → row[j]? = some c → row'[j]? = some c' → Ren q h c c') : Ren q h (.sl b i n) (.list r k.sz rows')
  | lptr (r r' j : Nat) (row row' : List AV) (hr : q.I r r') (hl : row.length = row'.length) (hc : ∀ (i : Nat) (c c' : AV), row[i]? = some c → row'[i]? = some c' → Ren q h c c') : Ren q h (.lptr r row j) (.lptr r' row' j)
  | clo (f : FuncId) (cs cs' : List AV) (hl : cs.length = cs'.length) (hc : ∀ (i : Nat) (c c' : AV), cs[i]? = some c → cs'[i]? = some c' → Ren q h c c') : Ren q h (.clo f cs) (.clo f cs')

/-- the names that go fit where they go -/
structure Cmp (m : Nm) (h : Hp) (m' : Nm) (h' : Hp) (q : Rn) : Prop where
  L : ∀ x y, q.L x y → ∃ k k', h x = .live k ∧ h' y = .live k' ∧ k'.sz = k.sz ∧ k.rows.length ≤ k'.rows.length ∧ m'.pl y = m.pl x
  I : ∀ x y, q.I x y → (h x).imm ∧ (h' y).imm ∧ ∀ g, m.set x g → m'.set y g
  F : ∀ x y, q.F x y → (∃ k, h x = .live k) ∧ (h' y).imm ∧ m'.set y (m.pl x).1

theorem R.ren {m m' : Nm} {h h' : Hp} {w : World} {q : Rn} (rel : Rel m h w) (cmp : Cmp m h m' h' q) {c c' : AV} (hr : Ren q h c c') : ∀ {v : Value}, R m h w c v → R m' h' w c' v := by
  have getq : ∀ {cs : List AV} {vs : Array Value} {i : Nat} {v : Value}, cs.length = vs.size → vs[i]? = some v → ∃ c, cs[i]? = some c := fun {cs vs i v} hl hv => by
    have : i < cs.length := by rw [hl]; exact (Array.getElem?_eq_some_iff.1 hv).1
    exact ⟨_, List.getElem?_eq_getElem this⟩
  have getl : ∀ {cs cs' : List AV} {i : Nat} {c' : AV}, cs.length = cs'.length → cs'[i]? = some c' → ∃ c, cs[i]? = some c := fun {cs cs' i c'} hl hv => by
    have : i < cs.length := by rw [hl]; exact (List.getElem?_eq_some_iff.1 hv).1
    exact ⟨_, List.getElem?_eq_getElem this⟩
  have getr : ∀ {rows rows' : List (List AV)} {i : Nat} {row' : List AV}, rows.length = rows'.length → rows'[i]? = some row' → ∃ row, rows[i]? = some row := fun {cs cs' i c'} hl hv => by
    have : i < cs.length := by rw [hl]; exact (List.getElem?_eq_some_iff.1 hv).1
    exact ⟨_, List.getElem?_eq_getElem this⟩
  induction hr with
  | any c => intro v _; exact .any v
  | val u => intro v hR; cases hR; exact .val _
  | agg cs cs' hl hc ih =>
    intro v hR
    cases hR with
    | agg _ vs hl2 hc2 =>
      refine .agg _ _ (hl ▸ hl2) fun i c' v h1 h2 => ?_
      obtain ⟨c, hcc⟩ := getl hl h1
      exact ih i c c' hcc h1 (hc2 i c v hcc h2)
  | tup cs cs' hl hc ih =>
    intro v hR
    cases hR with
    | tup _ vs hl2 hc2 =>
      refine .tup _ _ (hl ▸ hl2) fun i c' v h1 h2 => ?_
      obtain ⟨c, hcc⟩ := getl hl h1
      exact ih i c c' hcc h1 (hc2 i c v hcc h2)
  | ptr b b' i j hb =>
    intro v hR
    obtain ⟨k, k', h1, h2, h3, _, h5⟩ := cmp.L b b' hb
    obtain ⟨e, _⟩ := R.ptr_row rel h1 hR
    subst e
    have := R.ptr (m := m') (h := h') (w := w) b' i j k' h2
    rw [h5, h3] at this
    exact this
  | sl b b' i n hb =>
    intro v hR
    obtain ⟨k, k', h1, h2, h3, h4, h5⟩ := cmp.L b b' hb
    obtain ⟨off, cap, e, p1, p2, p3, p4, p5⟩ := R.sl_inv rel h1 hR
    subst e
    have := R.sl (m := m') (h := h') (w := w) b' i n k' h2 off cap (by omega) p2 p3 (by rw [h5, h3]; exact p4) (by rw [h5, h3]; exact p5)
    rw [h5] at this
    exact this
  | nil r r' sz hr =>
    intro v hR
    obtain ⟨h1, h2, h3⟩ := cmp.I r r' hr
    rcases R.list_inv h1 hR with ⟨_, e⟩ | ⟨_, a, cap, e, p1⟩ | ⟨g, off, cap, e, hg, p1, p2, _⟩
    · subst e; exact .nil r' sz
    · subst e; exact .emp r' sz cap a h2 p1
    · subst e
      exact .list r' sz [] h2 g off cap (h3 g hg) p1 p2 (by simp) (fun _ _ => undef) (by simp) (by simp)
  | vnil r sz => intro v hR; cases hR; exact .nil r sz
  | list r r' sz rows rows' hr hl hw hc ih =>
    intro v hR
    obtain ⟨h1, h2, h3⟩ := cmp.I r r' hr
    rcases R.list_inv h1 hR with ⟨e0, e⟩ | ⟨e0, a, cap, e, p1⟩ | ⟨g, off, cap, e, hg, p1, p2, p3, f, p4, p5⟩
    · subst e
      rw [e0] at hl
      have : rows' = [] := List.eq_nil_of_length_eq_zero (by simpa using hl.symm)
      rw [this]
      exact .nil r' sz
    · subst e
      rw [e0] at hl
      have : rows' = [] := List.eq_nil_of_length_eq_zero (by simpa using hl.symm)
      rw [this]
      exact .emp r' sz cap a h2 p1
    · subst e
      rw [hl]
      refine .list r' sz rows' h2 g off cap (h3 g hg) (by omega) p2 (fun row' hm => ?_) f (fun i j row' c' a b => ?_) fun i j row' c' a b => ?_
      · obtain ⟨i, hi⟩ := List.getElem?_of_mem hm
        obtain ⟨row, hrow⟩ := getr hl hi
        rw [← hw i row row' hrow hi]
        exact p3 row (List.mem_of_getElem? hrow)
      · obtain ⟨row, hrow⟩ := getr hl a
        obtain ⟨c, hcc⟩ := getl (hw i row row' hrow a) b
        exact p4 i j row c hrow hcc
      · obtain ⟨row, hrow⟩ := getr hl a
        obtain ⟨c, hcc⟩ := getl (hw i row row' hrow a) b
        exact ih i j row row' c c' hrow a hcc b (p5 i j row c hrow hcc)
  | glist r r' sz rows rows' hr hl hw hc ih =>
    intro v hR
    obtain ⟨h1, h2, h3⟩ := cmp.I r r' hr
    rcases R.glist_inv h1 hR with ⟨e0, e⟩ | ⟨e0, a, e⟩ | ⟨g, off, cap, e, hg, p1, p2, p3, pz, f, p4, p5⟩
    · subst e
      rw [e0] at hl
      have : rows' = [] := List.eq_nil_of_length_eq_zero (by simpa using hl.symm)
      rw [this]
      exact .gnil r' sz
    · subst e
      rw [e0] at hl
      have : rows' = [] := List.eq_nil_of_length_eq_zero (by simpa using hl.symm)
      rw [this]
      exact .gemp r' sz a h2
    · subst e
      rw [hl]
      refine .glist r' sz rows' h2 g off cap (h3 g hg) (by omega) p2 (fun row' hm => ?_) pz f (fun i j row' c' a b => ?_) fun i j row' c' a b => ?_
      · obtain ⟨i, hi⟩ := List.getElem?_of_mem hm
        obtain ⟨row, hrow⟩ := getr hl hi
        rw [← hw i row row' hrow hi]
        exact p3 row (List.mem_of_getElem? hrow)
      · obtain ⟨row, hrow⟩ := getr hl a
        obtain ⟨c, hcc⟩ := getl (hw i row row' hrow a) b
        exact p4 i j row c hrow hcc
      · obtain ⟨row, hrow⟩ := getr hl a
        obtain ⟨c, hcc⟩ := getl (hw i row row' hrow a) b
        exact ih i j row row' c c' hrow a hcc b (p5 i j row c hrow hcc)
  | gl r sz rows c' hh ih => intro v hR; exact ih hR.g2l
  | vgnil r sz => intro v hR; cases hR; exact .gnil r sz
  | frz b r i n k rows' hr hb hl hw hc ih =>
    intro v hR
    obtain ⟨_, h2, h3⟩ := cmp.F b r hr
    obtain ⟨off, cap, e, p1, p2, p3, p4, p5⟩ := R.sl_inv rel hb hR
    subst e
    obtain ⟨cur, hcur, hsz, hrows, hcells⟩ := rel.own b k hb
    have hlen : ((k.rows.drop i).take n).length = n := by rw [List.length_take, List.length_drop]; omega
    have hn' : n = rows'.length := by rw [← hl, hlen]
    have cell : ∀ (i' j : Nat) (row : List AV) (c : AV), ((k.rows.drop i).take n)[i']? = some row → row[j]? = some c → ∃ v, w.cell? ⟨(m.pl b).1, off + i' * k.sz + j, none⟩ = some v ∧ R m h w c v := by
      intro i' j row c a b'
      have hin : i' < n := by rw [← hlen]; exact (List.getElem?_eq_some_iff.1 a).1
      have hoff := p4 (by omega)
      rw [List.getElem?_take, if_pos hin, List.getElem?_drop] at a
      obtain ⟨v, v1, v2⟩ := hcells (i + i') j row c a b'
      refine ⟨v, ?_, v2⟩
      simp only [World.cell?, hcur]
      rw [← v1, hoff, Nat.add_mul, ← Nat.add_assoc]
      rfl
    have rowLen : ∀ row, row ∈ (k.rows.drop i).take n → row.length = k.sz := fun row hm => hrows row (List.mem_of_mem_drop (List.mem_of_mem_take hm))
    rw [hn']
    -- the values, by place
    refine .list r k.sz rows' h2 (m.pl b).1 off cap h3 (by omega) p3 (fun row' hm => ?_) (fun i' j => (w.cell? ⟨(m.pl b).1, off + i' * k.sz + j, none⟩).getD undef) (fun i' j row' c' a b' => ?_) fun i' j row' c' a b' => ?_
    · obtain ⟨i', hi⟩ := List.getElem?_of_mem hm
      obtain ⟨row, hrow⟩ := getr hl hi
      rw [← hw i' row row' hrow hi]
      exact rowLen row (List.mem_of_getElem? hrow)
    · obtain ⟨row, hrow⟩ := getr hl a
      obtain ⟨c, hcc⟩ := getl (hw i' row row' hrow a) b'
      obtain ⟨v, v1, _⟩ := cell i' j row c hrow hcc
      rw [v1]; rfl
    · obtain ⟨row, hrow⟩ := getr hl a
      obtain ⟨c, hcc⟩ := getl (hw i' row row' hrow a) b'
      obtain ⟨v, v1, v2⟩ := cell i' j row c hrow hcc
      rw [v1]
      exact ih i' j row row' c c' hrow a hcc b' v2
  | frzg b r i n k rows' hr hb hl hw hc ih =>
    intro v hR
    obtain ⟨_, h2, h3⟩ := cmp.F b r hr
    obtain ⟨off, cap, e, p1, p2, p3, p4, p5⟩ := R.sl_inv rel hb hR
    subst e
    obtain ⟨cur, hcur, hsz, hrows, hcells⟩ := rel.own b k hb
    have hlen : ((k.rows.drop i).take n).length = n := by rw [List.length_take, List.length_drop]; omega
    have hn' : n = rows'.length := by rw [← hl, hlen]
    have cell : ∀ (i' j : Nat) (row : List AV) (c : AV), ((k.rows.drop i).take n)[i']? = some row → row[j]? = some c → ∃ v, w.cell? ⟨(m.pl b).1, off + i' * k.sz + j, none⟩ = some v ∧ R m h w c v := by
      intro i' j row c a b'
      have hin : i' < n := by rw [← hlen]; exact (List.getElem?_eq_some_iff.1 a).1
      have hoff := p4 (by omega)
      rw [List.getElem?_take, if_pos hin, List.getElem?_drop] at a
      obtain ⟨v, v1, v2⟩ := hcells (i + i') j row c a b'
      refine ⟨v, ?_, v2⟩
      simp only [World.cell?, hcur]
      rw [← v1, hoff, Nat.add_mul, ← Nat.add_assoc]
      rfl
    have rowLen : ∀ row, row ∈ (k.rows.drop i).take n → row.length = k.sz := fun row hm => hrows row (List.mem_of_mem_drop (List.mem_of_mem_take hm))
    rw [hn']
    -- the values, by place
    refine .glist r k.sz rows' h2 (m.pl b).1 off cap h3 (by omega) p3 (fun row' hm => ?_) (fun c0 cur2 e2 f2 hc2 => by have h5 := p5 cur2 e2 f2 hc2 c0; have h6 := p4 c0; rw [Nat.add_mul] at h5; omega) (fun i' j => (w.cell? ⟨(m.pl b).1, off + i' * k.sz + j, none⟩).getD undef) (fun i' j row' c' a b' => ?_) fun i' j row' c' a b' => ?_
    · obtain ⟨i', hi⟩ := List.getElem?_of_mem hm
      obtain ⟨row, hrow⟩ := getr hl hi
      rw [← hw i' row row' hrow hi]
      exact rowLen row (List.mem_of_getElem? hrow)
    · obtain ⟨row, hrow⟩ := getr hl a
      obtain ⟨c, hcc⟩ := getl (hw i' row row' hrow a) b'
      obtain ⟨v, v1, _⟩ := cell i' j row c hrow hcc
      rw [v1]; rfl
    · obtain ⟨row, hrow⟩ := getr hl a
      obtain ⟨c, hcc⟩ := getl (hw i' row row' hrow a) b'
      obtain ⟨v, v1, v2⟩ := cell i' j row c hrow hcc
      rw [v1]
      exact ih i' j row row' c c' hrow a hcc b' v2
  | lptr r r' j row row' hr hl hc ih =>
    intro v hR
    obtain ⟨h1, h2, h3⟩ := cmp.I r r' hr
    cases hR with
    | lptr _ _ _ hri g off hg f hf hRR =>
      refine .lptr r' row' j h2 g off (h3 g hg) f (fun j' c' a => ?_) fun j' c' a => ?_
      · obtain ⟨c, hcc⟩ := getl hl a
        exact hf j' c hcc
      · obtain ⟨c, hcc⟩ := getl hl a
        exact ih j' c c' hcc a (hRR j' c hcc)
    | lptrD _ _ _ _ hd _ => rw [hd] at h1; exact h1.elim
  | clo f cs cs' hl hc ih =>
    intro v hR
    cases hR with
    | clo _ _ vs hl2 hc2 =>
      refine .clo f _ _ (hl ▸ hl2) fun i c' v h1 h2 => ?_
      obtain ⟨c, hcc⟩ := getl hl h1
      exact ih i c c' hcc h1 (hc2 i c v hcc h2)

/-- rows under other names -/
def RowsRen (q : Rn) (h : Hp) (rows rows' : List (List AV)) : Prop :=
  rows.length = rows'.length ∧ (∀ (i : Nat) (row row' : List AV), rows[i]? = some row → rows'[i]? = some row' → row.length = row'.length) ∧
    ∀ (i j : Nat) (row row' : List AV) (c c' : AV), rows[i]? = some row → rows'[i]? = some row' → row[j]? = some c → row'[j]? = some c' → Ren q h c c'

/-- The conditions under which the names may be turned. -/
structure RnOk (h h' : Hp) (q : Rn) : Prop where
  live : ∀ y k', h' y = .live k' → ∃ x k, q.L x y ∧ h x = .live k ∧ k'.sz = k.sz ∧ k'.elem = k.elem ∧ RowsRen q h k.rows k'.rows
  L : ∀ x y, q.L x y → ∃ k k', h x = .live k ∧ h' y = .live k'
  L1 : ∀ x x' y, q.L x y → q.L x' y → x = x'
  L2 : ∀ x y y', q.L x y → q.L x y' → y = y'
  I : ∀ x y, q.I x y → (h x).imm ∧ (h' y).imm ∧ (h' y = .uniq → h x = .uniq)
  I2 : ∀ x y y', q.I x y → q.I x y' → h' y = .uniq → y = y'
  F : ∀ x y, q.F x y → (∃ k, h x = .live k) ∧ (h' y).imm
  F2 : ∀ x y y', q.F x y → q.F x y' → h' y = .uniq → y = y'
  FL : ∀ x y y', q.F x y → ¬ q.L x y'

/-- the places under the new names -/
structure NmRen (m m' : Nm) (h' : Hp) (q : Rn) : Prop where
  pl : ∀ x y, q.L x y → m'.pl y = m.pl x
  set : ∀ y g, (h' y).imm → (m'.set y g ↔ (∃ x, q.I x y ∧ m.set x g) ∨ ∃ x, q.F x y ∧ g = (m.pl x).1)

theorem NmRen.cmp {m m' : Nm} {h h' : Hp} {q : Rn} (nm : NmRen m m' h' q) (ok : RnOk h h' q) : Cmp m h m' h' q where
  L := fun x y hxy => by
    obtain ⟨k, k', h1, h2⟩ := ok.L x y hxy
    obtain ⟨x2, k2, h3, h4, h5, _, h7, _⟩ := ok.live y k' h2
    have := ok.L1 x x2 y hxy h3
    subst this
    rw [h1] at h4; cases h4
    exact ⟨k, k', h1, h2, h5, by omega, nm.pl x y hxy⟩
  I := fun x y hxy => by
    obtain ⟨h1, h2, _⟩ := ok.I x y hxy
    exact ⟨h1, h2, fun g hg => (nm.set y g h2).2 (.inl ⟨x, hxy, hg⟩)⟩
  F := fun x y hxy => by
    obtain ⟨h1, h2⟩ := ok.F x y hxy
    exact ⟨h1, h2, (nm.set y _ h2).2 (.inr ⟨x, hxy, rfl⟩)⟩

theorem Rel.ren {m m' : Nm} {h h' : Hp} {w : World} {q : Rn} (rel : Rel m h w) (ok : RnOk h h' q) (nm : NmRen m m' h' q) : Rel m' h' w := by
  have cmp := nm.cmp ok
  have src : ∀ y k', h' y = .live k' → ∃ x k, q.L x y ∧ h x = .live k ∧ m'.pl y = m.pl x := fun y k' hy => by
    obtain ⟨x, k, h1, h2, _⟩ := ok.live y k' hy
    exact ⟨x, k, h1, h2, nm.pl x y h1⟩
  refine ⟨?_, ?_, ?_, ?_, ?_, ?_⟩
  · intro y k' hy
    obtain ⟨x, k, h1, h2, h3, h4, h5, h6, h7⟩ := ok.live y k' hy
    obtain ⟨cur, c1, c2, c3, c4⟩ := rel.own x k h2
    have hpl := nm.pl x y h1
    refine ⟨cur, by rw [hpl, h4]; exact c1, by rw [hpl, h3, ← h5]; exact c2, fun row' hm => ?_, fun i j row' c' a b => ?_⟩
    · obtain ⟨i, hi⟩ := List.getElem?_of_mem hm
      have hlt : i < k.rows.length := by rw [h5]; exact (List.getElem?_eq_some_iff.1 hi).1
      rw [← h6 i _ row' (List.getElem?_eq_getElem hlt) hi, h3]
      exact c3 _ (List.getElem_mem hlt)
    · have hlt : i < k.rows.length := by rw [h5]; exact (List.getElem?_eq_some_iff.1 a).1
      have hrow := List.getElem?_eq_getElem hlt
      have hlj : j < (k.rows[i]).length := by rw [h6 i _ row' hrow a]; exact (List.getElem?_eq_some_iff.1 b).1
      have hcc := List.getElem?_eq_getElem hlj
      obtain ⟨v, v1, v2⟩ := c4 i j _ _ hrow hcc
      exact ⟨v, by rw [hpl, h3]; exact v1, R.ren rel cmp (h7 i j _ row' _ c' hrow a hcc b) v2⟩
  · intro y y' k k' hy hy' e
    obtain ⟨x, k1, h1, h2, h3⟩ := src y k hy
    obtain ⟨x', k2, h1', h2', h3'⟩ := src y' k' hy'
    rw [h3, h3'] at e
    have := rel.sep x x' k1 k2 h2 h2' e
    subst this
    exact ok.L2 x y y' h1 h1'
  · intro y k r hy hr hs
    obtain ⟨x, k1, h1, h2, h3⟩ := src y k hy
    rw [h3] at hs
    rcases (nm.set r _ hr).1 hs with ⟨x', hI, hg⟩ | ⟨x', hF, hg⟩
    · exact rel.sepR x k1 x' h2 (ok.I x' r hI).1 hg
    · obtain ⟨⟨k2, hk2⟩, _⟩ := ok.F x' r hF
      have := rel.sep x x' k1 k2 h2 hk2 hg
      subst this
      exact ok.FL x r y hF h1
  · intro r r' g hr hr' hne hs hs'
    rcases (nm.set r g (by rw [hr]; trivial)).1 hs with ⟨x, hI, hg⟩ | ⟨x, hF, hg⟩
    · obtain ⟨hi1, _, hu⟩ := ok.I x r hI
      rcases (nm.set r' g hr').1 hs' with ⟨x', hI', hg'⟩ | ⟨x', hF', hg'⟩
      · by_cases e : x = x'
        · subst e; exact hne (ok.I2 x r r' hI hI' hr)
        · exact rel.sepU x x' g (hu hr) (ok.I x' r' hI').1 e hg hg'
      · obtain ⟨⟨k2, hk2⟩, _⟩ := ok.F x' r' hF'
        exact rel.sepR x' k2 x hk2 hi1 (hg' ▸ hg)
    · obtain ⟨⟨k1, hk1⟩, _⟩ := ok.F x r hF
      rcases (nm.set r' g hr').1 hs' with ⟨x', hI', hg'⟩ | ⟨x', hF', hg'⟩
      · exact rel.sepR x k1 x' hk1 (ok.I x' r' hI').1 (hg ▸ hg')
      · obtain ⟨⟨k2, hk2⟩, _⟩ := ok.F x' r' hF'
        have := rel.sep x x' k1 k2 hk1 hk2 (hg.symm.trans hg')
        subst this
        exact hne (ok.F2 x r r' hF hF' hr)
  · intro r g hr hs
    rcases (nm.set r g hr).1 hs with ⟨x, hI, hg⟩ | ⟨x, hF, hg⟩
    · exact rel.bound x g (ok.I x r hI).1 hg
    · obtain ⟨⟨k1, hk1⟩, _⟩ := ok.F x r hF
      obtain ⟨cur, c1, _⟩ := rel.own x k1 hk1
      rw [hg]; exact (Array.getElem?_eq_some_iff.1 c1).1
  · intro r g hr hs
    rcases (nm.set r g (by rw [hr]; trivial)).1 hs with ⟨x, hI, hg⟩ | ⟨x, hF, hg⟩
    · exact rel.free x g ((ok.I x r hI).2.2 hr) hg
    · obtain ⟨⟨k1, hk1⟩, _⟩ := ok.F x r hF
      obtain ⟨cur, c1, _⟩ := rel.own x k1 hk1
      exact ⟨cur, _, by rw [hg]; exact c1⟩
end Go.Proofs.Ytjmjnndmpeeppaa

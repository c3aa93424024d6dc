/- A block of one's own becomes memory that stays, and is marked: '[]byte' of a constant string. No condition. -/
import Derived.Test.YtjmjnndmpeeppaaAhiStr
namespace Go.Proofs.Ytjmjnndmpeeppaa
open Go.RowKit
set_option linter.unusedVariables false
set_option linter.unusedSimpArgs false
/-- A block is handed over to memory that stays; its marks may turn, its cells not. -/
theorem Rel.fix {m : Nm} {h : Hp} {w w' : World} (rel : Rel m h w) {b id : Nat} {k : Blk} (hb : h b = .live k) (hu : h id = .unused) (cur : Array Value) (f : Nat × Nat)
    (hh : w'.heap[(m.pl b).1]? = some (.cells cur k.elem f)) (hsz : w'.heap.size = w.heap.size)
    (far : ∀ g, g ≠ (m.pl b).1 → w'.heap[g]? = w.heap[g]?) (o1 : w'.os = w.os) (o2 : w'.tape = w.tape) (o3 : w'.output = w.output) :
    Rel (m.of id fun g => g = (m.pl b).1) ((h.upd b .dead).upd id .perm) w' ∧ Ev m h w (m.of id fun g => g = (m.pl b).1) ((h.upd b .dead).upd id .perm) w' := by
  have hbi : b ≠ id := by rintro rfl; rw [hb] at hu; cases hu
  have hup : ∀ x, x ≠ b → x ≠ id → ((h.upd b .dead).upd id .perm) x = h x := fun x hx hy => by rw [Hp.upd_ne _ _ hy, Hp.upd_ne _ _ hx]
  have hupb : ((h.upd b .dead).upd id .perm) b = .dead := by rw [Hp.upd_ne _ _ hbi, Hp.upd_same]
  have hupi : ((h.upd b .dead).upd id .perm) id = .perm := Hp.upd_same _ _ _
  have farO : ∀ x kx, h x = .live kx → x ≠ b → w'.heap[(m.pl x).1]? = w.heap[(m.pl x).1]? := fun x kx hx hne => far _ fun e => hne (rel.sep x b kx k hx hb e)
  have liveE : ∀ x k1, ((h.upd b .dead).upd id .perm) x = .live k1 → h x = .live k1 ∧ x ≠ b ∧ x ≠ id := fun x k1 h1 => by
    have hx : x ≠ b := by rintro rfl; rw [hupb] at h1; cases h1
    have hy : x ≠ id := by rintro rfl; rw [hupi] at h1; cases h1
    exact ⟨by rw [← hup x hx hy]; exact h1, hx, hy⟩
  have ev : Ev m h w (m.of id fun g => g = (m.pl b).1) ((h.upd b .dead).upd id .perm) w' := by
    refine ⟨fun x hx => rfl, fun x hx => Nm.of_ne m _ (by rintro rfl; exact hx hu), fun x => ?_, by omega, ?_, fun g hg ho _ => far g (fun e => ho b k hb e.symm), ?_, ?_, o1, o2, o3⟩
    · by_cases hx : x = b
      · subst hx; rw [hb, hupb]; trivial
      · by_cases hy : x = id
        · subst hy; rw [hu]; trivial
        · rw [hup x hx hy]; exact Own.goes_refl _
    · intro x k1 k2 h1 h2 c e f hcc
      obtain ⟨h3, h4, h5⟩ := liveE x k2 h2
      exact ⟨c, e, f, by rw [← farO x k1 h1 h4]; exact hcc, rfl⟩
    · intro x k1 h1 h2
      obtain ⟨h3, _, _⟩ := liveE x k1 h2
      rw [h1] at h3; cases h3
    · intro r g h1 h2 hss
      by_cases hx : r = b
      · subst hx; rw [hb] at h1; cases h1
      · by_cases hy : r = id
        · subst hy; rw [hupi] at h2; cases h2
        · rw [hup r hx hy, h1] at h2; cases h2
  have immE : ∀ r, r ≠ id → (((h.upd b .dead).upd id .perm) r).imm → (h r).imm ∧ r ≠ b := fun r h2 hr => by
    have h1 : r ≠ b := by rintro rfl; rw [hupb] at hr; exact hr
    exact ⟨by rw [← hup r h1 h2]; exact hr, h1⟩
  have uniqE : ∀ r, ((h.upd b .dead).upd id .perm) r = .uniq → h r = .uniq ∧ r ≠ id := fun r hr => by
    have h2 : r ≠ id := by rintro rfl; rw [hupi] at hr; cases hr
    have h1 : r ≠ b := by rintro rfl; rw [hupb] at hr; cases hr
    exact ⟨by rw [← hup r h1 h2]; exact hr, h2⟩
  have hlt : (m.pl b).1 < w.heap.size := by
    obtain ⟨c, hc, _⟩ := rel.own b k hb
    exact (Array.getElem?_eq_some_iff.1 hc).1
  refine ⟨⟨?_, ?_, ?_, ?_, ?_, ?_⟩, ev⟩
  · intro x k1 h1
    obtain ⟨h2, h3, h4⟩ := liveE x k1 h1
    obtain ⟨c0, g2, g3, g4, g5⟩ := rel.own x k1 h2
    exact ⟨c0, by show w'.heap[(m.pl x).1]? = _; rw [farO x k1 h2 h3]; exact g2, g3, g4, fun i j row c a b => let ⟨v, p, q⟩ := g5 i j row c a b; ⟨v, p, q.mono rel ev⟩⟩
  · intro x y k1 k2 h1 h2 e
    exact rel.sep x y k1 k2 (liveE x k1 h1).1 (liveE y k2 h2).1 e
  · intro x k1 r h1 hr hss
    obtain ⟨h2, h3, h4⟩ := liveE x k1 h1
    by_cases hy : r = id
    · subst hy
      rw [Nm.of_same] at hss
      exact h3 (rel.sep x b k1 k h2 hb hss)
    · rw [Nm.of_ne m _ hy] at hss
      exact rel.sepR x k1 r h2 (immE r hy hr).1 hss
  · intro r r' g hr hr' hne hss
    obtain ⟨h1, h2⟩ := uniqE r hr
    rw [Nm.of_ne m _ h2] at hss
    by_cases hy : r' = id
    · subst hy
      rw [Nm.of_same]
      rintro rfl
      exact rel.sepR b k r hb (by rw [h1]; trivial) hss
    · rw [Nm.of_ne m _ hy]
      exact rel.sepU r r' g h1 (immE r' hy hr').1 hne hss
  · intro r g hr hss
    by_cases hy : r = id
    · subst hy
      rw [Nm.of_same] at hss
      rw [hss]; omega
    · rw [Nm.of_ne m _ hy] at hss
      have := rel.bound r g (immE r hy hr).1 hss
      omega
  · intro r g hr hss
    obtain ⟨h1, h2⟩ := uniqE r hr
    rw [Nm.of_ne m _ h2] at hss
    obtain ⟨c, e, hc⟩ := rel.free r g h1 hss
    refine ⟨c, e, ?_⟩
    rw [far g (fun e2 => rel.sepR b k r hb (by rw [h1]; trivial) (e2 ▸ hss))]
    exact hc
section
variable {P : Program}
theorem freeze_heap (w : World) (g n : Nat) (c : Array Value) (e : TypeId) (f : Nat × Nat) (hg : w.heap[g]? = some (.cells c e f)) :
    (∃ f', (w.freeze ⟨g, n, none⟩ 1).heap[g]? = some (.cells c e f')) ∧ (∀ g', g' ≠ g → (w.freeze ⟨g, n, none⟩ 1).heap[g']? = w.heap[g']?) ∧ (w.freeze ⟨g, n, none⟩ 1).heap.size = w.heap.size := by
  unfold World.freeze
  rw [if_neg (by decide)]
  refine ⟨?_, fun g' hne => ?_, by simp⟩
  · simp only [Array.getElem?_modify, if_true, hg, Option.map_some]
    exact ⟨_, rfl⟩
  · simp only [Array.getElem?_modify]
    rw [if_neg (fun e => hne e.symm)]
theorem afrz {o : Oper} {s : List AV} {t e : TypeId} {x : Operand} {b i n id : Nat} {k : Blk} (ho : o.op = .convert t t x) (ht : elemT P t = some e) (he : intT P e = some .u8) (hx : ae s x = .sl b i n) :
    OpL P o s ⟨.list id k.sz ((k.rows.drop i).take n), [(b, .live k), (id, .unused)], [(b, .dead), (id, .perm)]⟩ := by
  intro h hrd m w a rel hops
  have hb : h b = .live k := hrd (b, _) (by simp)
  have hu : h id = .unused := hrd (id, _) (by simp)
  have hR := hops x (by simp [ho, Op.operands])
  rw [hx] at hR
  obtain ⟨off, cap, e1, h1, h2, h3, h4, h5⟩ := R.sl_inv rel hb hR
  obtain ⟨cur, c1, c2, c3, c4⟩ := rel.own b k hb
  obtain ⟨⟨f', g1⟩, g2, g3⟩ := freeze_heap w (m.pl b).1 cur.size cur k.elem (0, 0) c1
  have hos : (w.freeze ⟨(m.pl b).1, cur.size, none⟩ 1).os = w.os ∧ (w.freeze ⟨(m.pl b).1, cur.size, none⟩ 1).tape = w.tape ∧ (w.freeze ⟨(m.pl b).1, cur.size, none⟩ 1).output = w.output := by
    unfold World.freeze; rw [if_neg (by decide)]; exact ⟨rfl, rfl, rfl⟩
  obtain ⟨rel', ev⟩ := rel.fix hb hu cur f' g1 g3 g2 hos.1 hos.2.1 hos.2.2
  have ht' := elemT_inv ht
  have he' : P.underlying e = some (.int .u8) := by
    unfold intT at he
    simp only [Option.bind_eq_some_iff] at he
    obtain ⟨d, h1, h2⟩ := he
    rw [h1]
    cases d <;> simp at h2 <;> simp [h2]
  have hsh : w.shape? (m.pl b).1 = some (k.elem, cur.size) := by unfold World.shape?; rw [c1]
  refine ⟨_, .slice (some ⟨(m.pl b).1, off, none⟩) n cap, _, w.freeze ⟨(m.pl b).1, cur.size, none⟩ 1, ?_, .inl rfl, rel', ev, ?_⟩
  · simp [execOp, ho, e1, convert, run_underlying ht', run_underlying he', markStringish, hsh]
  · have hi : ((h.upd b .dead).upd id .perm) id = .perm := Hp.upd_same _ _ _
    have hlen : ((k.rows.drop i).take n).length = n := by simp; omega
    show R (m.of id fun g => g = (m.pl b).1) ((h.upd b .dead).upd id .perm) _ (.list id k.sz ((k.rows.drop i).take n)) _
    by_cases hn : n = 0
    · subst hn
      rw [List.take_zero]
      exact .emp _ _ _ _ (by rw [hi]; trivial) h3
    · have hrow : ∀ (i' : Nat) (row : List AV), ((k.rows.drop i).take n)[i']? = some row → k.rows[i + i']? = some row := fun i' row hr => by
        rw [List.getElem?_take] at hr
        split at hr
        · rw [List.getElem?_drop] at hr; exact hr
        · cases hr
      have := R.list (m := m.of id fun g => g = (m.pl b).1) (h := (h.upd b .dead).upd id .perm) (w := w.freeze ⟨(m.pl b).1, cur.size, none⟩ 1) id k.sz ((k.rows.drop i).take n) (by rw [hi]; trivial) (m.pl b).1 off cap (by rw [Nm.of_same]) (by rw [hlen]; exact h2) h3
        (fun row hr => c3 row (List.mem_of_mem_drop (List.mem_of_mem_take hr)))
        (fun i' j => (cur[(m.pl b).2 + (i + i') * k.sz + j]?).getD undef)
        (fun i' j row c hr hc => by
          obtain ⟨v, hv, _⟩ := c4 (i + i') j row c (hrow i' row hr) hc
          have e2 : off + i' * k.sz + j = (m.pl b).2 + (i + i') * k.sz + j := by rw [h4 (by omega), Nat.add_mul]; omega
          simp [World.cell?, g1, e2, hv])
        (fun i' j row c hr hc => by
          obtain ⟨v, hv, hRv⟩ := c4 (i + i') j row c (hrow i' row hr) hc
          rw [hv]
          exact hRv.mono rel ev)
      rw [hlen] at this
      exact this
theorem qOpen.frz {o : Oper} {sl : List AV} {h : List Own} {t e : TypeId} {x : Operand} {b i n : Nat} {k : Blk} {K : AV → List Nat → List Nat → List Own → Prop} (ho : o.op = .convert t t x) (ht : elemT P t = some e) (he : intT P e = some .u8) (hx : ae sl x = .sl b i n) (hb : ofL h b = .live k)
    (hq : frcW (.list h.length k.sz ((k.rows.drop i).take n)) fun av => frcL (apE h [(b, .dead), (h.length, .perm)]) fun h' => K av [b, h.length] [b, h.length] h') : qOpen P o sl h K :=
  qOpen.of (afrz (id := h.length) ho ht he hx) ⟨fun q hq => by
    simp only [List.mem_cons, List.not_mem_nil, or_false] at hq
    rcases hq with rfl | rfl
    · exact hb
    · exact ofL_len h, Nat.le_of_lt (ofL_lt hb), by have := ofL_lt hb; unfold setO; (try split) <;> simp <;> omega, trivial⟩ (by simp only [frcL_eq, frcW_eq] at hq ⊢; exact hq)
end
end Go.Proofs.Ytjmjnndmpeeppaa

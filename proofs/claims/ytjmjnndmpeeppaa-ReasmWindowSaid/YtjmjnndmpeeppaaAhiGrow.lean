/- append to a list that grows, in memory of one's own. No condition. -/
import Derived.Test.YtjmjnndmpeeppaaAhiApp
namespace Go.Proofs.Ytjmjnndmpeeppaa
open Go.RowKit
set_option linter.unusedVariables false
set_option linter.unusedSimpArgs false

/-- A region of one's own turns into another, written within and in new memory. -/
theorem Rel.regrow {m : Nm} {h : Hp} {w w' : World} (rel : Rel m h w) {r id : Nat} (hr : h r = .uniq) (hu : h id = .unused) (S : Nat → Prop)
    (hS : ∀ g, S g → m.set r g ∨ w.heap.size ≤ g) (hb : ∀ g, S g → g < w'.heap.size) (hf : ∀ g, S g → ∃ cur e, w'.heap[g]? = some (.cells cur e (0, 0)))
    (hsz : w.heap.size ≤ w'.heap.size) (far : ∀ g, g < w.heap.size → ¬ m.set r g → w'.heap[g]? = w.heap[g]?)
    (o1 : w'.os = w.os) (o2 : w'.tape = w.tape) (o3 : w'.output = w.output) :
    Rel (m.of id S) ((h.upd r .dead).upd id .uniq) w' ∧ Ev m h w (m.of id S) ((h.upd r .dead).upd id .uniq) w' := by
  have hri : r ≠ id := by rintro rfl; rw [hr] at hu; cases hu
  have hne : ∀ x, h x ≠ .unused → x ≠ id := fun x hx e => hx (e ▸ hu)
  have hN : ∀ x, x ≠ id → x ≠ r → ((h.upd r .dead).upd id .uniq) x = h x := fun x h1 h2 => by rw [Hp.upd_ne _ _ h1, Hp.upd_ne _ _ h2]
  have hR : ((h.upd r .dead).upd id .uniq) r = .dead := by rw [Hp.upd_ne _ _ hri, Hp.upd_same]
  have hI : ((h.upd r .dead).upd id .uniq) id = .uniq := Hp.upd_same _ _ _
  have ltO : ∀ x k', h x = .live k' → (m.pl x).1 < w.heap.size := fun x k' hx => by
    obtain ⟨c, h1, _⟩ := rel.own x k' hx
    exact (Array.getElem?_eq_some_iff.1 h1).1
  have farO : ∀ x k', h x = .live k' → w'.heap[(m.pl x).1]? = w.heap[(m.pl x).1]? := fun x k' hx => far _ (ltO x k' hx) fun hs => rel.sepR x k' r hx (by rw [hr]; trivial) hs
  have liv : ∀ x k, ((h.upd r .dead).upd id .uniq) x = .live k → h x = .live k ∧ x ≠ id := fun x k hx => by
    by_cases e1 : x = id
    · subst e1; rw [hI] at hx; cases hx
    · by_cases e2 : x = r
      · subst e2; rw [hR] at hx; cases hx
      · rw [hN x e1 e2] at hx; exact ⟨hx, e1⟩
  have im : ∀ x, (((h.upd r .dead).upd id .uniq) x).imm → x = id ∨ (h x).imm ∧ ((h.upd r .dead).upd id .uniq) x = h x ∧ x ≠ r ∧ x ≠ id := fun x hx => by
    by_cases e1 : x = id
    · exact .inl e1
    · by_cases e2 : x = r
      · subst e2; rw [hR] at hx; exact hx.elim
      · rw [hN x e1 e2] at hx; exact .inr ⟨hx, hN x e1 e2, e2, e1⟩
  have ev : Ev m h w (m.of id S) ((h.upd r .dead).upd id .uniq) w' := by
    refine ⟨fun x hx => rfl, fun x hx => Nm.of_ne m _ (hne x hx), fun x => ?_, hsz, ?_, fun g hg _ hk => far g hg fun hs => ?_, ?_, ?_, o1, o2, o3⟩
    · by_cases e1 : x = id
      · subst e1; rw [hu]; trivial
      · by_cases e2 : x = r
        · subst e2; rw [hR, hr]; trivial
        · rw [hN x e1 e2]; exact Own.goes_refl _
    · intro x k1 k2 h1 h2 c e f hcc
      exact ⟨c, e, f, by rw [← farO x k1 h1]; exact hcc, rfl⟩
    · have := hk r hr hs
      rw [hR] at this; cases this
    · intro x k1 h1 h2
      rw [(liv x k1 h2).1] at h1; cases h1
    · intro x g h1 h2 hs
      rcases im x (by rw [h2]; trivial) with rfl | ⟨a, b, c, d⟩
      · rw [Nm.of_same] at hs
        rcases hS g hs with h3 | h3
        · exact .inr (.inr ⟨r, hr, hR, h3⟩)
        · exact .inl h3
      · rw [b, h1] at h2; cases h2
  refine ⟨⟨?_, ?_, ?_, ?_, ?_, ?_⟩, ev⟩
  · intro x k hx
    obtain ⟨hx0, hxi⟩ := liv x k hx
    obtain ⟨cur, a, b, c, d⟩ := rel.own x k hx0
    exact ⟨cur, (farO x k hx0).trans a, b, c, fun i j row cc p q => let ⟨v, y, z⟩ := d i j row cc p q; ⟨v, y, z.mono rel ev⟩⟩
  · intro x y k1 k2 h1 h2 e
    exact rel.sep x y k1 k2 (liv x k1 h1).1 (liv y k2 h2).1 e
  · intro x k q h1 hq hs
    obtain ⟨hx0, _⟩ := liv x k h1
    rcases im q hq with rfl | ⟨a, b, c, d⟩
    · rw [Nm.of_same] at hs
      rcases hS _ hs with h3 | h3
      · exact rel.sepR x k r hx0 (by rw [hr]; trivial) h3
      · have := ltO x k hx0
        change w.heap.size ≤ (m.pl x).1 at h3
        omega
    · rw [Nm.of_ne m _ d] at hs
      exact rel.sepR x k q hx0 a hs
  · intro q q' g hq hq' hqq hs hs'
    rcases im q (by rw [hq]; trivial) with rfl | ⟨a, b, c, d⟩
    · rcases im q' hq' with rfl | ⟨a', b', c', d'⟩
      · exact hqq rfl
      · rw [Nm.of_same] at hs
        rw [Nm.of_ne m _ d'] at hs'
        rcases hS _ hs with h3 | h3
        · exact rel.sepU r q' g hr a' (fun e => c' e.symm) h3 hs'
        · have := rel.bound q' g a' hs'; omega
    · rw [Nm.of_ne m _ d] at hs
      rw [b] at hq
      rcases im q' hq' with rfl | ⟨a', b', c', d'⟩
      · rw [Nm.of_same] at hs'
        rcases hS _ hs' with h3 | h3
        · exact rel.sepU q r g hq (by rw [hr]; trivial) c hs h3
        · have := rel.bound q g a hs; omega
      · rw [Nm.of_ne m _ d'] at hs'
        exact rel.sepU q q' g hq a' hqq hs hs'
  · intro q g hq hs
    rcases im q hq with rfl | ⟨a, b, c, d⟩
    · rw [Nm.of_same] at hs; exact hb g hs
    · rw [Nm.of_ne m _ d] at hs; exact Nat.lt_of_lt_of_le (rel.bound q g a hs) hsz
  · intro q g hq hs
    rcases im q (by rw [hq]; trivial) with rfl | ⟨a, b, c, d⟩
    · rw [Nm.of_same] at hs; exact hf g hs
    · rw [Nm.of_ne m _ d] at hs
      rw [b] at hq
      rw [far g (rel.bound q g a hs) fun h3 => rel.sepU q r g hq (by rw [hr]; trivial) c hs h3]
      exact rel.free q g hq hs

theorem R.glist_inv {m : Nm} {h : Hp} {w : World} {r sz : Nat} {rows : List (List AV)} {v : Value} (hi : (h r).imm) (hR : R m h w (.glist r sz rows) v) :
    (rows = [] ∧ v = .slice none 0 0) ∨ (rows = [] ∧ ∃ a, v = .slice (some a) 0 0) ∨ ∃ g off cap, v = .slice (some ⟨g, off, none⟩) rows.length cap ∧ m.set r g ∧ rows.length ≤ cap ∧ cap ≤ maxLen ∧ (∀ row, row ∈ rows → row.length = sz) ∧
      (cap ≠ 0 → ∀ (cur : Array Value) (e : TypeId) (f : Nat × Nat), w.heap[g]? = some (.cells cur e f) → off + cap * sz ≤ cur.size) ∧
      ∃ f : Nat → Nat → Value, (∀ (i j : Nat) (row : List AV) (c : AV), rows[i]? = some row → row[j]? = some c → w.cell? ⟨g, off + i * sz + j, none⟩ = some (f i j)) ∧ ∀ (i j : Nat) (row : List AV) (c : AV), rows[i]? = some row → row[j]? = some c → R m h w c (f i j) := by
  cases hR with
  | gnil => exact .inl ⟨rfl, rfl⟩
  | gemp _ _ a hr => exact .inr (.inl ⟨rfl, a, rfl⟩)
  | glist _ _ _ hr g off cap hg hc hm hw hz f hf hRR => exact .inr (.inr ⟨g, off, cap, rfl, hg, hc, hm, hw, hz, f, hf, hRR⟩)
  | glistD _ _ _ _ hd _ => rw [hd] at hi; exact hi.elim

section
variable {P : Program}

theorem run_append_at' (w : World) (t t2 ty e e0 : TypeId) (i : TypeInfo) (ht : P.underlying t = some (.slice e)) (ht2 : P.underlying t2 = some (.slice e)) (hi : P.info? e = some i)
    (g o sLen sCap : Nat) (cur : Array Value) (hg : w.heap[g]? = some (.cells cur e0 (0, 0)))
    (a : Addr) (m c : Nat) (news : List Value) (hl : news.length = m * i.size) (hnews : ∀ j u, news[j]? = some u → w.cell? (a.add j) = some u) (h1 : ∀ u ∈ news, u.oneCell' = true)
    (hroom : sLen + m ≤ sCap) (hfit : o + sLen * i.size + news.length ≤ cur.size) :
    (Builtin.append_ #[t, t2] ty #[.slice (some ⟨g, o, none⟩) sLen sCap, .slice (some a) m c]).run P w =
      .ok (.slice (some ⟨g, o, none⟩) (sLen + m) sCap) (w.setRow g (cur.toList.take (o + sLen * i.size) ++ news ++ cur.toList.drop (o + sLen * i.size + news.length)).toArray) := by
  have hf := run_firstCells_some (P := P) w i.size m a m c news hl hnews
  have hst := run_storeCells_at P g (o + sLen * i.size) e0 news 0 cur w hg (by simpa using hfit) h1
  simp only [Nat.add_zero] at hst
  simp [Builtin.append_, run_underlying ht, run_underlying ht2, sizeOf, typeInfo, hi, Builtin.lenOf, hroom, hf, add_none, hst]

/-- append on data: the target a list that grows, in memory of one's own -/
@[go_sem] def agrow (P : Program) (t : TypeId) (x y : AV) (look : Nat → Own) (fresh : Nat) (rdy : List (Nat × Own)) : Option Res :=
  match elemT P t with
  | some e =>
    match sizeT P e, bytesT P e, zeroT P e, arows look y with
    | some n0, some nb, some z, some (sz, new) =>
      if sz = n0 ∧ 0 < n0 ∧ 0 < nb ∧ z.length = n0 ∧ new.all (fun r => r.all AV.one) = true then
        match x with
        | .glist r sz' rows =>
          match look r with
          | .uniq =>
            if sz' = n0 ∧ (rows.length + new.length) * nb ≤ 140737488355328 then
              some ⟨.glist fresh n0 (rows ++ new), (r, .uniq) :: (fresh, .unused) :: rdy, [(r, .dead), (fresh, .uniq)]⟩
            else none
          | _ => none
        | _ => none
      else none
    | _, _, _, _ => none
  | none => none

theorem agrow_ok {s : List AV} {o : Oper} {t : TypeId} {x y : Operand} (ho : o.op = .call { callee := .builtin .append, args := #[x, y], argTypes := #[t, t] }) {look : Nat → Own} {fresh : Nat} {rdy : List (Nat × Own)} {r : Res}
    (hl : alive look (ae s y) = some rdy) (h : agrow P t (ae s x) (ae s y) look fresh rdy = some r) : OpL P o s r := by
  unfold agrow at h
  split at h
  case h_2 => cases h
  rename_i e he
  have hu := elemT_inv he
  split at h
  case h_2 => cases h
  rename_i n0 nb z sz new hn hnb hz hrows
  split at h
  case isFalse => cases h
  rename_i hcond
  obtain ⟨c1, c2, c3, c4, c5⟩ := hcond
  subst c1
  obtain ⟨inf, z0, hinf, i1, i2, i3, i4⟩ := info_of hn hnb hz
  have exec : ∀ (a : Act) (v1 v2 : Value) (w w' : World) (v : Value), a.eval x = v1 → a.eval y = v2 → (Builtin.append_ #[t, t] o.type #[v1, v2]).run P w = .ok v w' → (execOp a.eval o).run P w = .ok (.value v) w' := by
    intro a v1 v2 w w' v e1 e2 hr
    simp [execOp, ho, resolve, invoke, builtin, e1, e2, hr]
  split at h
  case h_2 => cases h
  rename_i q sz' rows hxe
  split at h
  case h_2 => cases h
  rename_i hlk
  split at h
  case isFalse => cases h
  rename_i hc2
  obtain ⟨d1, d4⟩ := hc2
  have d1' := d1.symm
  clear d1
  subst d1'
  cases h
  intro h hrd m w a rel hop
  have hx := hop x (by simp [ho, Op.operands, Call.operands])
  have hy := hop y (by simp [ho, Op.operands, Call.operands])
  rw [hxe] at hx
  have hq : h q = .uniq := hrd (q, .uniq) (by simp)
  have hfr : h fresh = .unused := hrd (fresh, .unused) (by simp)
  have hqf : q ≠ fresh := by rintro rfl; rw [hq] at hfr; cases hfr
  have hqi : (h q).imm := by rw [hq]; trivial
  obtain ⟨hw, hcase⟩ := read_rows rel hrows hl (fun p hp => hrd p (by simp [hp])) hy c2
  have upds : h.upds [(q, .dead), (fresh, .uniq)] = (h.upd q .dead).upd fresh .uniq := rfl
  have fhp : ((h.upd q .dead).upd fresh .uniq) fresh = .uniq := Hp.upd_same _ _ _
  have goal : ∀ (S : Nat → Prop) (w' : World) (v : Value), (execOp a.eval o).run P w = .ok (.value v) w' →
      (∀ g, S g → m.set q g ∨ w.heap.size ≤ g) → (∀ g, S g → g < w'.heap.size) → (∀ g, S g → ∃ cur e, w'.heap[g]? = some (.cells cur e (0, 0))) → w.heap.size ≤ w'.heap.size →
      (∀ g, g < w.heap.size → ¬ m.set q g → w'.heap[g]? = w.heap[g]?) → w'.os = w.os → w'.tape = w.tape → w'.output = w.output →
      (∀ m' : Nm, (∀ c u, R m h w c u → R m' ((h.upd q .dead).upd fresh .uniq) w' c u) → m'.set fresh = S → R m' ((h.upd q .dead).upd fresh .uniq) w' (.glist fresh sz (rows ++ new)) v) →
      ∃ nx v m' w', (execOp a.eval o).run P w = .ok nx w' ∧ (nx = .value v ∨ nx = .skip ∧ v = undef) ∧ Rel m' (h.upds [(q, .dead), (fresh, .uniq)]) w' ∧ Ev m h w m' (h.upds [(q, .dead), (fresh, .uniq)]) w' ∧
          R m' (h.upds [(q, .dead), (fresh, .uniq)]) w' (.glist fresh sz (rows ++ new)) v := by
    intro S w' v hrun p1 p2 p3 p4 p5 p6 p7 p8 hR
    have A := rel.regrow hq hfr S p1 p2 p3 p4 p5 p6 p7 p8
    exact ⟨_, _, _, w', hrun, .inl rfl, A.1, A.2, hR _ (fun c u hc => hc.mono rel A.2) (Nm.of_same _ _ _)⟩
  -- a new block that holds all
  have fresh_block : ∀ (vs : List Value) (gc : Nat) (w1 : World) (v : Value), vs.length = (rows ++ new).length * sz → (∀ row, row ∈ rows ++ new → row.length = sz) → (∀ (q : Nat) (c : AV) (u : Value), (rows ++ new).flatten[q]? = some c → vs[q]? = some u → R m h w c u) → (rows ++ new).length ≤ gc → gc ≤ maxLen →
      w1 = w.drew.alloc (.cells (vs.toArray ++ Builtin.zeroCells z0.cells (gc - (rows ++ new).length)) e) → v = .slice (some ⟨w.heap.size, 0, none⟩) (rows ++ new).length gc → (execOp a.eval o).run P w = .ok (.value v) w1 →
      ∃ nx v m' w', (execOp a.eval o).run P w = .ok nx w' ∧ (nx = .value v ∨ nx = .skip ∧ v = undef) ∧ Rel m' (h.upds [(q, .dead), (fresh, .uniq)]) w' ∧ Ev m h w m' (h.upds [(q, .dead), (fresh, .uniq)]) w' ∧
          R m' (h.upds [(q, .dead), (fresh, .uniq)]) w' (.glist fresh sz (rows ++ new)) v := by
    intro vs gc w1 v hvl hvw hvR hge hcm hw1 hv hrun
    subst hv
    have hnewc : w1.heap[w.heap.size]? = some (.cells (vs.toArray ++ Builtin.zeroCells z0.cells (gc - (rows ++ new).length)) e (0, 0)) := by
      rw [hw1]
      change (w.drew.alloc _).heap[w.drew.heap.size]? = _
      rw [heap_alloc_new]
    have csz : (vs.toArray ++ Builtin.zeroCells z0.cells (gc - (rows ++ new).length)).size = gc * sz := by
      simp only [Array.size_append, List.size_toArray, size_zeroCells, i4, c4, hvl, ← Nat.add_mul]
      congr 1; omega
    have hs1 : w1.heap.size = w.heap.size + 1 := by rw [hw1]; exact Array.size_push ..
    refine goal (fun g => g = w.heap.size) w1 _ hrun (fun g hg => .inr (by omega)) (fun g hg => by omega) (fun g hg => by subst hg; exact ⟨_, _, hnewc⟩) (by omega) (fun g hg _ => ?_) (by rw [hw1]; rfl) (by rw [hw1]; rfl) (by rw [hw1]; rfl) fun m' mono hset => ?_
    · rw [hw1]
      change (w.heap.push _)[g]? = _
      rw [Array.getElem?_push, if_neg (by omega)]
    · have cell : ∀ (i j : Nat) (row : List AV) (c : AV), (rows ++ new)[i]? = some row → row[j]? = some c → ∃ v, w1.cell? ⟨w.heap.size, 0 + i * sz + j, none⟩ = some v ∧ R m h w c v := fun i j row c p1 p2 => by
        have := cells_zero_row hvw hvl hvR (vs.toArray ++ Builtin.zeroCells z0.cells (gc - (rows ++ new).length)) 0 (fun q u hq => by
          rw [Nat.zero_add, Array.getElem?_append_left (by simpa using (List.getElem?_eq_some_iff.1 hq).1)]; simpa using hq) i j row c p1 p2
        obtain ⟨v, v1, v2⟩ := this
        refine ⟨v, ?_, v2⟩
        simp only [World.cell?, hnewc]
        rw [← v1]; rfl
      refine .glist fresh sz _ (by rw [fhp]; trivial) w.heap.size 0 gc (by rw [hset]) hge hcm hvw (fun _ cur2 e2 f2 hc => ?_) (fun i j => (w1.cell? ⟨w.heap.size, 0 + i * sz + j, none⟩).getD undef) (fun i j row c p1 p2 => ?_) fun i j row c p1 p2 => ?_
      · rw [hnewc] at hc; cases hc; rw [csz]; simp
      · obtain ⟨v, v1, _⟩ := cell i j row c p1 p2
        rw [v1]; rfl
      · obtain ⟨v, v1, v2⟩ := cell i j row c p1 p2
        rw [v1]; exact mono _ _ v2
  rcases R.glist_inv hqi hx with ⟨hr0, ex⟩ | ⟨hr0, a0, ex⟩ | ⟨g, off, cap, ex, hg, g1, g2, g3, g4, f, g5, g6⟩
  · -- nil
    subst hr0
    by_cases hm0 : new.length = 0
    · have hn0 : new = [] := List.eq_nil_of_length_eq_zero hm0
      subst hn0
      refine goal (fun _ => False) w (.slice none 0 0) ?_ (fun g hg => hg.elim) (fun g hg => hg.elim) (fun g hg => hg.elim) (Nat.le_refl _) (fun _ _ _ => rfl) rfl rfl rfl fun m' mono hset => .gnil _ _
      rcases hcase with ⟨e1, e2⟩ | ⟨ad, cap2, e2, hmx, news, n1, n2, n3⟩
      · refine exec a _ _ w w _ ex e2 ?_
        simp [Builtin.append_, run_underlying hu, sizeOf, typeInfo, hinf, Builtin.lenOf, Builtin.firstCells, storeCells]
      · have hnews : news = [] := List.eq_nil_of_length_eq_zero (by simpa using n1)
        subst hnews
        refine exec a _ _ w w _ ex e2 ?_
        simp [Builtin.append_, run_underlying hu, sizeOf, typeInfo, hinf, Builtin.lenOf, Builtin.firstCells, storeCells, loadCells, loadCellsFrom]
    · rcases hcase with ⟨e1, e2⟩ | ⟨ad, cap2, e2, hmx, news, n1, n2, n3⟩
      · rw [e1] at hm0; simp at hm0
      · simp only [List.length_nil, Nat.zero_add] at d4
        have hb : new.length * inf.bytes ≤ 281474976710656 := by rw [i2]; omega
        have h63 : (new.length : Int) ≤ 9223372036854775807 := by
          have : new.length ≤ 140737488355328 := Nat.le_trans (Nat.le_mul_of_pos_right _ c3) d4
          omega
        have hrun := run_append_nil (P := P) w t o.type e inf z0 hu hinf i3 ad new.length cap2 news (by rw [i1]; exact n1) n2 (by omega) h63 hb
        have hge := grownCap_ge w new.length 0 e
        have hcm : grownCap w new.length 0 e ≤ maxLen := grownCap_le_maxLen w _ 0 e (by simp only [maxLen]; omega)
        exact fresh_block news (grownCap w new.length 0 e) _ _ (by simpa using n1) (by simpa using hw) (by simpa using n3) (by simpa using hge) hcm rfl rfl (exec a _ _ w _ _ ex e2 (by simpa using hrun))
  · -- empty, of no room
    subst hr0
    by_cases hm0 : new.length = 0
    · have hn0 : new = [] := List.eq_nil_of_length_eq_zero hm0
      subst hn0
      refine goal (fun _ => False) w (.slice (some a0) 0 0) ?_ (fun g hg => hg.elim) (fun g hg => hg.elim) (fun g hg => hg.elim) (Nat.le_refl _) (fun _ _ _ => rfl) rfl rfl rfl fun m' mono hset => .gemp _ _ _ (by rw [fhp]; trivial)
      rcases hcase with ⟨e1, e2⟩ | ⟨ad, cap2, e2, hmx, news, n1, n2, n3⟩
      · refine exec a _ _ w w _ ex e2 ?_
        simp [Builtin.append_, run_underlying hu, sizeOf, typeInfo, hinf, Builtin.lenOf, Builtin.firstCells, storeCells]
      · have hnews : news = [] := List.eq_nil_of_length_eq_zero (by simpa using n1)
        subst hnews
        refine exec a _ _ w w _ ex e2 ?_
        simp [Builtin.append_, run_underlying hu, sizeOf, typeInfo, hinf, Builtin.lenOf, Builtin.firstCells, storeCells, loadCells, loadCellsFrom]
    · rcases hcase with ⟨e1, e2⟩ | ⟨ad, cap2, e2, hmx, news, n1, n2, n3⟩
      · rw [e1] at hm0; simp at hm0
      · simp only [List.length_nil, Nat.zero_add] at d4
        have hb48 : Builtin.nextslicecap (0 + new.length) 0 * inf.bytes ≤ 281474976710656 := growslice_fits (by omega) (by rw [i2, Nat.zero_add]; exact d4)
        have h63 : ((0 + new.length : Nat) : Int) ≤ 9223372036854775807 := by
          have : new.length ≤ 140737488355328 := Nat.le_trans (Nat.le_mul_of_pos_right _ c3) d4
          omega
        have hrun := run_append_grow (P := P) w t o.type e inf z0 hu hinf i3 a0 0 0 [] (by simp) (by simp) ad new.length cap2 news (by rw [i1]; exact n1) n2 (by omega) h63 hb48
        simp only [Nat.zero_add] at hrun h63
        have hge := grownCap_ge w new.length 0 e
        have hcm : grownCap w new.length 0 e ≤ maxLen := grownCap_le_maxLen w _ 0 e (by simp only [maxLen]; omega)
        exact fresh_block news (grownCap w new.length 0 e) _ _ (by simpa using n1) (by simpa using hw) (by simpa using n3) (by simpa using hge) hcm rfl rfl (exec a _ _ w _ _ ex e2 (by simpa using hrun))
  · obtain ⟨cur, e0, hcur⟩ := rel.free q g hq hg
    have hglt : g < w.heap.size := rel.bound q g hqi hg
    have hnw : ∀ row, row ∈ rows ++ new → row.length = sz := fun row hr => by
      rcases List.mem_append.1 hr with hr | hr
      · exact g3 row hr
      · exact hw row hr
    have olds : ∀ (i j : Nat) (row : List AV) (c : AV), rows[i]? = some row → row[j]? = some c → ∃ v, cur[off + i * sz + j]? = some v ∧ R m h w c v := fun i j row c p1 p2 => by
      have h1 := g5 i j row c p1 p2
      simp only [World.cell?, hcur] at h1
      refine ⟨f i j, ?_, g6 i j row c p1 p2⟩
      simpa using h1
    have bnd : ∀ g', m.set q g' → g' < w.heap.size := fun g' hs => rel.bound q g' hqi hs
    have inplace : ∀ (cur' : Array Value) (w' : World), w'.heap[g]? = some (.cells cur' e0 (0, 0)) → cur'.size = cur.size → w'.heap.size = w.heap.size → (∀ g', g' ≠ g → w'.heap[g']? = w.heap[g']?) → w'.os = w.os → w'.tape = w.tape → w'.output = w.output →
        (execOp a.eval o).run P w = .ok (.value (.slice (some ⟨g, off, none⟩) (rows ++ new).length cap)) w' → (rows ++ new).length ≤ cap →
        (∀ (i j : Nat) (row : List AV) (c : AV), (rows ++ new)[i]? = some row → row[j]? = some c → ∃ v, cur'[off + i * sz + j]? = some v ∧ R m h w c v) →
        ∃ nx v m' w', (execOp a.eval o).run P w = .ok nx w' ∧ (nx = .value v ∨ nx = .skip ∧ v = undef) ∧ Rel m' (h.upds [(q, .dead), (fresh, .uniq)]) w' ∧ Ev m h w m' (h.upds [(q, .dead), (fresh, .uniq)]) w' ∧
          R m' (h.upds [(q, .dead), (fresh, .uniq)]) w' (.glist fresh sz (rows ++ new)) v := by
      intro cur' w' p1 p2 p3 p4 p5 p6 p7 hrun hle hcells
      refine goal (m.set q) w' _ hrun (fun g' hs => .inl hs) (fun g' hs => by rw [p3]; exact bnd g' hs) (fun g' hs => ?_) (by omega) (fun g' _ hs => p4 g' fun e => hs (e ▸ hg)) p5 p6 p7 fun m' mono hset => ?_
      · by_cases e : g' = g
        · subst e; exact ⟨_, _, p1⟩
        · rw [p4 g' e]; exact rel.free q g' hq hs
      · have cell : ∀ (i j : Nat) (row : List AV) (c : AV), (rows ++ new)[i]? = some row → row[j]? = some c → ∃ v, w'.cell? ⟨g, off + i * sz + j, none⟩ = some v ∧ R m h w c v := fun i j row c q1 q2 => by
          obtain ⟨v, v1, v2⟩ := hcells i j row c q1 q2
          refine ⟨v, ?_, v2⟩
          simp only [World.cell?, p1]
          rw [← v1]; rfl
        refine .glist fresh sz _ (by rw [fhp]; trivial) g off cap (by rw [hset]; exact hg) hle g2 hnw (fun c0 cur2 e2 f2 hc => ?_) (fun i j => (w'.cell? ⟨g, off + i * sz + j, none⟩).getD undef) (fun i j row c q1 q2 => ?_) fun i j row c q1 q2 => ?_
        · rw [p1] at hc; cases hc; rw [p2]; exact g4 c0 _ _ _ hcur
        · obtain ⟨v, v1, _⟩ := cell i j row c q1 q2
          rw [v1]; rfl
        · obtain ⟨v, v1, v2⟩ := cell i j row c q1 q2
          rw [v1]; exact mono _ _ v2
    rcases hcase with ⟨e1, e2⟩ | ⟨ad, cap2, e2, hmx, news, n1, n2, n3⟩
    · subst e1
      refine inplace cur w hcur rfl rfl (fun _ _ => rfl) rfl rfl rfl (exec a _ _ w w _ ex e2 ?_) (by simpa using g1) (by simpa using olds)
      simp [Builtin.append_, run_underlying hu, sizeOf, typeInfo, hinf, Builtin.lenOf, Builtin.firstCells, g1, storeCells]
    · by_cases hroom : rows.length + new.length ≤ cap
      · by_cases hm0 : new.length = 0
        · have hn0 : new = [] := List.eq_nil_of_length_eq_zero hm0
          subst hn0
          have hnews : news = [] := List.eq_nil_of_length_eq_zero (by simpa using n1)
          subst hnews
          refine inplace cur w hcur rfl rfl (fun _ _ => rfl) rfl rfl rfl (exec a _ _ w w _ ex e2 ?_) (by simpa using g1) (by simpa using olds)
          simp [Builtin.append_, run_underlying hu, sizeOf, typeInfo, hinf, Builtin.lenOf, Builtin.firstCells, g1, storeCells, loadCells, loadCellsFrom]
        · have hfit0 := g4 (by omega) cur _ _ hcur
          have hmul := Nat.mul_le_mul_right sz hroom
          have h1 := one_cells (news := news) (by rw [flat_len new hw]; exact n1) c5 n3
          rw [Nat.add_mul] at hmul
          have hfit1 : off + rows.length * sz + new.length * sz ≤ cur.size := by omega
          have hrun := run_append_at' (P := P) w t t o.type e e0 inf hu hu hinf g off rows.length cap cur hcur ad new.length cap2 news (by rw [i1]; exact n1) n2 h1 hroom (by rw [i1, n1]; omega)
          rw [i1, n1] at hrun
          refine inplace (cur.toList.take (off + rows.length * sz) ++ news ++ cur.toList.drop (off + rows.length * sz + new.length * sz)).toArray _ (setRow_heap_same w _ _ cur _ hcur) (by simp [n1]; omega) (by simp) (fun g' hg' => setRow_other w _ g' _ hg') rfl rfl rfl
            (exec a _ _ w _ _ ex e2 (by rw [List.length_append]; exact hrun)) (by rw [List.length_append]; exact hroom) ?_
          intro i j row c p1 p2
          have hsp : ∀ qq, ((cur.toList.take (off + rows.length * sz) ++ news ++ cur.toList.drop (off + rows.length * sz + new.length * sz)).toArray)[qq]? =
              if off + rows.length * sz ≤ qq ∧ qq < off + rows.length * sz + new.length * sz then news[qq - (off + rows.length * sz)]? else cur.toList[qq]? := fun qq => by
            rw [List.getElem?_toArray]
            exact getElem?_splice cur.toList news _ _ qq n1 (by simp; omega)
          have hrl : row.length = sz := hnw row (List.mem_of_getElem? p1)
          have hj : j < sz := by rw [← hrl]; exact (List.getElem?_eq_some_iff.1 p2).1
          by_cases hi : i < rows.length
          · rw [List.getElem?_append_left (by omega)] at p1
            obtain ⟨v, v1, v2⟩ := olds i j row c p1 p2
            refine ⟨v, ?_, v2⟩
            rw [hsp, if_neg ?_]
            · simpa using v1
            · have := Nat.mul_le_mul_right sz (show i + 1 ≤ rows.length by omega)
              rw [Nat.add_mul] at this
              omega
          · rw [List.getElem?_append_right (by omega)] at p1
            obtain ⟨v, v1, v2⟩ := cells_zero_row hw n1 n3 ((cur.toList.take (off + rows.length * sz) ++ news ++ cur.toList.drop (off + rows.length * sz + new.length * sz)).toArray) (off + rows.length * sz) (fun qq u hq => by
              have hlt := (List.getElem?_eq_some_iff.1 hq).1
              rw [hsp, if_pos (by omega)]
              rw [Nat.add_sub_cancel_left]; exact hq) (i - rows.length) j row c p1 p2
            refine ⟨v, ?_, v2⟩
            rw [← v1]
            congr 1
            have : i * sz = rows.length * sz + (i - rows.length) * sz := by rw [← Nat.add_mul]; congr 1; omega
            omega
      · -- it grows
        obtain ⟨ovs, ov1, ov2⟩ := exists_list (p := fun qq v => w.cell? ((⟨g, off, none⟩ : Addr).add qq) = some v ∧ ∀ c, rows.flatten[qq]? = some c → R m h w c v) (rows.length * sz) (fun qq hq => by
          have hlt : qq < rows.flatten.length := by rw [flat_len _ g3]; exact hq
          obtain ⟨row, r1, r2⟩ := flat_get _ g3 qq _ (List.getElem?_eq_getElem hlt) c2
          obtain ⟨v, v1, v2⟩ := olds _ _ row _ r1 r2
          have e : qq / sz * sz + qq % sz = qq := by rw [Nat.mul_comm]; exact Nat.div_add_mod qq sz
          refine ⟨v, ?_, fun c hc => ?_⟩
          · rw [add_none]
            simp only [World.cell?, hcur]
            rw [← v1, Nat.add_assoc _ (qq / sz * sz), e]; rfl
          · rw [List.getElem?_eq_getElem hlt] at hc; cases hc; exact v2)
        have hb48 : Builtin.nextslicecap (rows.length + new.length) cap * inf.bytes ≤ 281474976710656 := growslice_fits (by omega) (by rw [i2]; exact d4)
        have h63 : ((rows.length + new.length : Nat) : Int) ≤ 9223372036854775807 := by
          have : rows.length + new.length ≤ 140737488355328 := Nat.le_trans (Nat.le_mul_of_pos_right _ c3) d4
          omega
        have hrun := run_append_grow (P := P) w t o.type e inf z0 hu hinf i3 ⟨g, off, none⟩ rows.length cap ovs (by rw [i1]; exact ov1) (fun j v hj => (ov2 j v hj).1) ad new.length cap2 news (by rw [i1]; exact n1) n2 (by omega) h63 hb48
        have hge := grownCap_ge w (rows.length + new.length) cap e
        have hcm : grownCap w (rows.length + new.length) cap e ≤ maxLen := grownCap_le_maxLen w _ cap e (by simp only [maxLen]; omega)
        have ncl : (ovs ++ news).length = (rows ++ new).length * sz := by rw [List.length_append, List.length_append, ov1, n1, Nat.add_mul]
        have nR : ∀ (q : Nat) (c : AV) (u : Value), (rows ++ new).flatten[q]? = some c → (ovs ++ news)[q]? = some u → R m h w c u := fun q c u hc hu => by
          rw [List.flatten_append] at hc
          have fl := flat_len _ g3
          by_cases hq : q < rows.length * sz
          · rw [List.getElem?_append_left (by omega)] at hc hu
            exact (ov2 q u hu).2 c hc
          · rw [List.getElem?_append_right (by omega), fl] at hc
            rw [List.getElem?_append_right (by omega), ov1] at hu
            exact n3 _ c u hc hu
        exact fresh_block (ovs ++ news) (grownCap w (rows.length + new.length) cap e) _ _ ncl hnw nR (by rw [List.length_append]; exact hge) hcm rfl (by rw [List.length_append]) (exec a _ _ w _ _ ex e2 (by
          rw [hrun, List.length_append]
          congr 2
          simp))
@[go_sem] def aapp (P : Program) (t : TypeId) (x y : AV) (look : Nat → Own) (fresh : Nat) (rdy : List (Nat × Own)) : Option Res :=
  match x with
  | .glist r sz rows => agrow P t (.glist r sz rows) y look fresh rdy
  | x => aappend P t x y look fresh rdy
theorem aapp_ok {s : List AV} {o : Oper} {t : TypeId} {x y : Operand} (ho : o.op = .call { callee := .builtin .append, args := #[x, y], argTypes := #[t, t] }) {look : Nat → Own} {fresh : Nat} {rdy : List (Nat × Own)} {r : Res}
    (hl : alive look (ae s y) = some rdy) (h : aapp P t (ae s x) (ae s y) look fresh rdy = some r) : OpL P o s r := by
  unfold aapp at h
  split at h
  · rename_i e
    rw [← e] at h
    exact agrow_ok ho hl h
  · exact aappend_ok ho hl h
end
end Go.Proofs.Ytjmjnndmpeeppaa

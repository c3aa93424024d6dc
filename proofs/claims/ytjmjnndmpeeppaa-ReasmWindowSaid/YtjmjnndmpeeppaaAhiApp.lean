/- append, copy, make, slices written out, on data. No condition. -/
import Derived.Test.YtjmjnndmpeeppaaAhiSl
namespace Go.Proofs.Ytjmjnndmpeeppaa
open Go.RowKit
set_option linter.unusedVariables false
set_option linter.unusedSimpArgs false

section
variable {P : Program}

/-- the rows of a slice that is read -/
@[go_sem] def arows (look : Nat → Own) : AV → Option (Nat × List (List AV))
  | .list r sz rows => some (sz, rows)
  | .glist r sz rows => some (sz, rows)
  | .sl b i n => match look b with | .live k => some (k.sz, (k.rows.drop i).take n) | _ => none
  | _ => none

theorem flat_get {sz : Nat} : ∀ (rows : List (List AV)), (∀ row, row ∈ rows → row.length = sz) → ∀ q c, rows.flatten[q]? = some c → 0 < sz → ∃ row, rows[q / sz]? = some row ∧ row[q % sz]? = some c
  | [], _, q, c, h, _ => by simp at h
  | row :: rows, hw, q, c, h, hz => by
    have hl : row.length = sz := hw row (by simp)
    rw [List.flatten_cons] at h
    by_cases hq : q < sz
    · rw [List.getElem?_append_left (by omega)] at h
      exact ⟨row, by rw [Nat.div_eq_of_lt hq]; rfl, by rw [Nat.mod_eq_of_lt hq]; exact h⟩
    · rw [List.getElem?_append_right (by omega), hl] at h
      obtain ⟨row', h1, h2⟩ := flat_get rows (fun r hr => hw r (by simp [hr])) (q - sz) c h hz
      have e : q = (q - sz) + sz := by omega
      refine ⟨row', ?_, ?_⟩
      · rw [e, Nat.add_div_right _ hz]; simpa using h1
      · rw [e, Nat.add_mod_right]; exact h2

theorem flat_len {sz : Nat} : ∀ (rows : List (List AV)), (∀ row, row ∈ rows → row.length = sz) → rows.flatten.length = rows.length * sz
  | [], _ => by simp
  | row :: rows, hw => by
    rw [List.flatten_cons, List.length_append, flat_len rows (fun r hr => hw r (by simp [hr])), hw row (by simp), List.length_cons, Nat.add_mul, Nat.one_mul, Nat.add_comm]

theorem flat_row {sz : Nat} : ∀ (rows : List (List AV)), (∀ row, row ∈ rows → row.length = sz) → ∀ i j row c, rows[i]? = some row → row[j]? = some c → rows.flatten[i * sz + j]? = some c
  | [], _, i, j, row, c, h, _ => by simp at h
  | r0 :: rows, hw, i, j, row, c, h1, h2 => by
    have hl : r0.length = sz := hw r0 (by simp)
    rw [List.flatten_cons]
    cases i with
    | zero =>
      simp at h1; subst h1
      rw [List.getElem?_append_left (by have := (List.getElem?_eq_some_iff.1 h2).1; omega)]
      simpa using h2
    | succ i =>
      rw [List.getElem?_append_right (by rw [hl, Nat.add_mul]; omega), hl]
      have := flat_row rows (fun r hr => hw r (by simp [hr])) i j row c (by simpa using h1) h2
      rw [show (i + 1) * sz + j - sz = i * sz + j by rw [Nat.add_mul]; omega]
      exact this

/-- What is read: an address and the cells, in rows. -/
theorem read_rows {m : Nm} {h : Hp} {w : World} {look : Nat → Own} {x : AV} {sz : Nat} {rows : List (List AV)} {v : Value} {rd : List (Nat × Own)} (rel : Rel m h w) (hx : arows look x = some (sz, rows)) (hl : alive look x = some rd) (hrd : ∀ p ∈ rd, h p.1 = p.2)
    (hR : R m h w x v) (hz : 0 < sz) : (∀ row, row ∈ rows → row.length = sz) ∧ ((rows = [] ∧ v = .slice none 0 0) ∨ ∃ ad cap, v = .slice (some ad) rows.length cap ∧ rows.length ≤ maxLen ∧ ∃ news : List Value, news.length = rows.length * sz ∧
      (∀ j u, news[j]? = some u → w.cell? (ad.add j) = some u) ∧ ∀ (q : Nat) (c : AV) (u : Value), rows.flatten[q]? = some c → news[q]? = some u → R m h w c u) := by
  have build : ∀ (g off cap : Nat) (ad : Addr), (∀ row, row ∈ rows → row.length = sz) → ad = ⟨g, off, none⟩ → (∀ (i j : Nat) (row : List AV) (c : AV), rows[i]? = some row → row[j]? = some c → ∃ v, w.cell? ⟨g, off + i * sz + j, none⟩ = some v ∧ R m h w c v) →
      ∃ news : List Value, news.length = rows.length * sz ∧ (∀ j u, news[j]? = some u → w.cell? (ad.add j) = some u) ∧ ∀ (q : Nat) (c : AV) (u : Value), rows.flatten[q]? = some c → news[q]? = some u → R m h w c u := by
    intro g off cap ad hw had hc
    subst had
    have fl := flat_len rows hw
    obtain ⟨vs, h1, h2⟩ := exists_list (p := fun q v => w.cell? ⟨g, off + q, none⟩ = some v ∧ ∀ c, rows.flatten[q]? = some c → R m h w c v) (rows.length * sz) (fun q hq => by
      have hq' : q < rows.flatten.length := by omega
      obtain ⟨row, r1, r2⟩ := flat_get rows hw q _ (List.getElem?_eq_getElem hq') hz
      obtain ⟨v, r3, r4⟩ := hc _ _ row _ r1 r2
      have e : q / sz * sz + q % sz = q := by rw [Nat.mul_comm]; exact Nat.div_add_mod q sz
      refine ⟨v, by rw [← r3, Nat.add_assoc, e], fun c hcc => ?_⟩
      rw [List.getElem?_eq_getElem hq'] at hcc
      cases hcc
      exact r4)
    exact ⟨vs, h1, fun j u hj => by rw [add_none]; exact (h2 j u hj).1, fun q c u hc hu => (h2 q u hu).2 c hc⟩
  cases x <;> simp only [arows, reduceCtorEq] at hx
  case list r sz' rows' =>
    cases hx
    obtain ⟨kd, hk, rfl⟩ := alive_list hl
    have hi : (h r).imm := by rw [hrd (r, kd) (by simp)]; exact hk
    rcases R.list_inv hi hR with ⟨h1, h2⟩ | ⟨h1, a, cap, h2, h3⟩ | ⟨g, off, cap, e1, hg, h2, h3, h4, f, hf, hRR⟩
    · exact ⟨by rw [h1]; simp, .inl ⟨h1, h2⟩⟩
    · subst h1
      exact ⟨by simp, .inr ⟨a, cap, h2, Nat.zero_le _, [], by simp, by simp, by simp⟩⟩
    · exact ⟨h4, .inr ⟨_, cap, e1, by omega, build g off cap _ h4 rfl fun i j row c a b => ⟨_, hf i j row c a b, hRR i j row c a b⟩⟩⟩
  case glist r sz' rows' =>
    cases hx
    obtain ⟨kd, hk, rfl⟩ := alive_glist hl
    have hi : (h r).imm := by rw [hrd (r, kd) (by simp)]; exact hk
    rcases R.list_inv hi hR.g2l with ⟨h1, h2⟩ | ⟨h1, a, cap, h2, h3⟩ | ⟨g, off, cap, e1, hg, h2, h3, h4, f, hf, hRR⟩
    · exact ⟨by rw [h1]; simp, .inl ⟨h1, h2⟩⟩
    · subst h1
      exact ⟨by simp, .inr ⟨a, cap, h2, Nat.zero_le _, [], by simp, by simp, by simp⟩⟩
    · exact ⟨h4, .inr ⟨_, cap, e1, by omega, build g off cap _ h4 rfl fun i j row c a b => ⟨_, hf i j row c a b, hRR i j row c a b⟩⟩⟩
  case sl b i n =>
    split at hx
    · rename_i k hk
      cases hx
      have e0 : rd = [(b, .live k)] := by simp only [alive, hk, Option.some.injEq] at hl; exact hl.symm
      have hb : h b = .live k := hrd (b, .live k) (by rw [e0]; simp)
      obtain ⟨off, cap, e1, h1, h2, h3, h4, h5⟩ := R.sl_inv rel hb hR
      obtain ⟨cur, hcur, hsz, hrows, hcells⟩ := rel.own b k hb
      have hlen : ((k.rows.drop i).take n).length = n := by rw [List.length_take, List.length_drop]; omega
      have hmem : ∀ row, row ∈ (k.rows.drop i).take n → row.length = k.sz := fun row hr => hrows row (List.mem_of_mem_drop (List.mem_of_mem_take hr))
      refine ⟨hmem, .inr ⟨_, cap, by rw [hlen]; exact e1, by rw [hlen]; omega, ?_⟩⟩
      by_cases hn : n = 0
      · subst hn
        exact ⟨[], by simp, by simp, by simp⟩
      · have := h4 (by omega)
        subst this
        refine build _ _ cap _ hmem rfl fun i' j row c a b => ?_
        rw [List.getElem?_take] at a
        split at a
        · rw [List.getElem?_drop] at a
          obtain ⟨v, p1, p2⟩ := hcells (i + i') j row c a b
          exact ⟨v, by simp only [World.cell?, hcur]; rw [← p1]; simp [Nat.add_mul, Nat.add_assoc], p2⟩
        · cases a
    · cases hx

theorem run_append_at (w : World) (t t2 ty e : TypeId) (i : TypeInfo) (ht : P.underlying t = some (.slice e)) (ht2 : P.underlying t2 = some (.slice e)) (hi : P.info? e = some i)
    (g o sLen sCap : Nat) (cur : Array Value) (hg : w.heap[g]? = some (.cells cur e (0, 0)))
    (a : Addr) (m c : Nat) (news : List Value) (hl : news.length = m * i.size) (hnews : ∀ j u, news[j]? = some u → w.cell? (a.add j) = some u) (h1 : ∀ u ∈ news, u.oneCell' = true)
    (hroom : sLen + m ≤ sCap) (hfit : o + sLen * i.size + news.length ≤ cur.size) :
    (Builtin.append_ #[t, t2] ty #[.slice (some ⟨g, o, none⟩) sLen sCap, .slice (some a) m c]).run P w =
      .ok (.slice (some ⟨g, o, none⟩) (sLen + m) sCap) (w.setRow g (cur.toList.take (o + sLen * i.size) ++ news ++ cur.toList.drop (o + sLen * i.size + news.length)).toArray) := by
  have hf := run_firstCells_some (P := P) w i.size m a m c news hl hnews
  have hst := run_storeCells_at P g (o + sLen * i.size) e news 0 cur w hg (by simpa using hfit) h1
  simp only [Nat.add_zero] at hst
  simp [Builtin.append_, run_underlying ht, run_underlying ht2, sizeOf, typeInfo, hi, Builtin.lenOf, hroom, hf, add_none, hst]

/-- A name is let go. -/
theorem Rel.kill {m : Nm} {h : Hp} {w : World} (rel : Rel m h w) (b : Nat) (hb : h b ≠ .unused) : Rel m (h.upd b .dead) w ∧ Ev m h w m (h.upd b .dead) w := by
  have hup : ∀ x, x ≠ b → (h.upd b .dead) x = h x := fun x hx => Hp.upd_ne h _ hx
  have liv : ∀ x k, (h.upd b .dead) x = .live k → h x = .live k := fun x k hx => by
    by_cases e : x = b
    · subst e; rw [Hp.upd_same] at hx; cases hx
    · rw [hup x e] at hx; exact hx
  have im : ∀ r, ((h.upd b .dead) r).imm → (h r).imm ∧ r ≠ b := fun r hr => by
    have : r ≠ b := by rintro rfl; rw [Hp.upd_same] at hr; exact hr
    exact ⟨by rw [← hup r this]; exact hr, this⟩
  have ev : Ev m h w m (h.upd b .dead) w := by
    refine ⟨fun _ _ => rfl, fun _ _ => rfl, fun x => ?_, Nat.le_refl _, fun x k k' _ _ cur e f hc => ⟨cur, e, f, hc, rfl⟩, fun _ _ _ _ => rfl, fun x k h1 h2 => ?_, fun r g h1 h2 => ?_, rfl, rfl, rfl⟩
    · by_cases e : x = b
      · subst e; rw [Hp.upd_same]; cases hh : h x <;> simp [Own.goes]
      · rw [hup x e]; exact Own.goes_refl _
    · rw [liv x k h2] at h1; cases h1
    · have := im r (by rw [h2]; trivial)
      rw [hup r this.2, h1] at h2; cases h2
  refine ⟨⟨fun x k hx => ?_, fun x y k1 k2 h1 h2 => rel.sep x y k1 k2 (liv x k1 h1) (liv y k2 h2), fun x k r h1 hr => rel.sepR x k r (liv x k h1) (im r hr).1, fun r r' g hr hr' => ?_, fun r g hr => rel.bound r g (im r hr).1, fun r g hr => ?_⟩, ev⟩
  · obtain ⟨cur, a, b', c, d⟩ := rel.own x k (liv x k hx)
    exact ⟨cur, a, b', c, fun i j row cc p q => let ⟨v, y, z⟩ := d i j row cc p q; ⟨v, y, z.mono rel ev⟩⟩
  · have h1 := im r (by rw [hr]; trivial)
    rw [hup r h1.2] at hr
    exact rel.sepU r r' g hr (im r' hr').1
  · have h1 := im r (by rw [hr]; trivial)
    rw [hup r h1.2] at hr
    exact rel.free r g hr

/-- append on data: the target a slice of the call's own up to its end -/
@[go_sem] def aappend (P : Program) (t : TypeId) (x y : AV) (look : Nat → Own) (fresh : Nat) (rdy : List (Nat × Own)) : Option Res :=
  match elemT P t with
  | some e =>
    match sizeT P e, bytesT P e, zeroT P e, arows look y with
    | some n0, some nb, some z, some (sz, new) =>
      if sz = n0 ∧ 0 < n0 ∧ 0 < nb ∧ z.length = n0 ∧ new.all (fun r => r.all AV.one) = true then
        match x with
        | .val (.slice none 0 0) =>
          if new.length ≠ 0 ∧ new.length * nb ≤ 140737488355328 then some ⟨.sl fresh 0 new.length, (fresh, .unused) :: rdy, [(fresh, .live ⟨n0, e, new⟩)]⟩ else none
        | .sl b i n =>
          match look b with
          | .live k =>
            if k.sz = n0 ∧ k.elem = e ∧ i + n = k.rows.length ∧ k.rows.all (fun r => r.all AV.one) = true ∧ (n + new.length) * nb ≤ 140737488355328 then
              some ⟨.sl fresh 0 (n + new.length), (b, .live k) :: (fresh, .unused) :: rdy, [(b, .dead), (fresh, .live ⟨n0, e, k.rows.drop i ++ new⟩)]⟩
            else none
          | _ => none
        | _ => none
      else none
    | _, _, _, _ => none
  | none => none

theorem one_cells {m : Nm} {h : Hp} {w : World} {rows : List (List AV)} {news : List Value} (hl : news.length = rows.flatten.length) (ha : rows.all (fun r => r.all AV.one) = true)
    (hR : ∀ (q : Nat) (c : AV) (u : Value), rows.flatten[q]? = some c → news[q]? = some u → R m h w c u) : ∀ u ∈ news, u.oneCell' = true := by
  intro u hu
  obtain ⟨q, hq⟩ := List.getElem?_of_mem hu
  have hlt : q < rows.flatten.length := by
    have := (List.getElem?_eq_some_iff.1 hq).1
    omega
  refine (hR q _ u (List.getElem?_eq_getElem hlt) hq).one ?_
  have hm := List.getElem_mem hlt
  rw [List.mem_flatten] at hm
  obtain ⟨r, hr, hc⟩ := hm
  exact List.all_eq_true.1 (List.all_eq_true.1 ha r hr) _ hc

theorem info_of {e : TypeId} {n0 nb : Nat} {z : List Value} (h1 : sizeT P e = some n0) (h2 : bytesT P e = some nb) (h3 : zeroT P e = some z) : ∃ i z0, P.info? e = some i ∧ i.size = n0 ∧ i.bytes = nb ∧ i.zero = some z0 ∧ z0.cells.size = z.length := by
  simp only [sizeT, bytesT, zeroT, Option.map_eq_some_iff, Option.bind_eq_some_iff] at h1 h2 h3
  obtain ⟨i, hi, a⟩ := h1
  obtain ⟨i2, hi2, b⟩ := h2
  obtain ⟨i3, hi3, z0, hz0, c⟩ := h3
  rw [hi] at hi2 hi3
  cases hi2; cases hi3
  exact ⟨i, z0, hi, a, b, hz0, by rw [← c]; simp⟩

theorem cells_zero_row {m : Nm} {h : Hp} {w : World} {rows : List (List AV)} {n0 : Nat} (hw : ∀ row, row ∈ rows → row.length = n0) {news : List Value} (hl : news.length = rows.length * n0) (hR : ∀ (q : Nat) (c : AV) (u : Value), rows.flatten[q]? = some c → news[q]? = some u → R m h w c u)
    (arr : Array Value) (off : Nat) (harr : ∀ q u, news[q]? = some u → arr[off + q]? = some u) : ∀ (i j : Nat) (row : List AV) (c : AV), rows[i]? = some row → row[j]? = some c → ∃ v, arr[off + i * n0 + j]? = some v ∧ R m h w c v := by
  intro i j row c h1 h2
  have hf := flat_row rows hw i j row c h1 h2
  have hlt := (List.getElem?_eq_some_iff.1 hf).1
  rw [flat_len rows hw, ← hl] at hlt
  exact ⟨news[i * n0 + j], by rw [Nat.add_assoc]; exact harr _ _ (List.getElem?_eq_getElem hlt), hR _ c _ hf (List.getElem?_eq_getElem hlt)⟩

theorem aappend_ok {s : List AV} {o : Oper} {t : TypeId} {x y : Operand} (ho : o.op = .call { callee := .builtin .append, args := #[x, y], argTypes := #[t, t] }) {look : Nat → Own} {fresh : Nat} {rdy : List (Nat × Own)} {r : Res}
    (hl : alive look (ae s y) = some rdy) (h : aappend P t (ae s x) (ae s y) look fresh rdy = some r) : OpL P o s r := by
  unfold aappend at h
  split at h
  case h_2 => cases h
  rename_i e he
  have hu := elemT_inv he
  split at h
  case h_2 => cases h
  rename_i n0 nb z sz new hn hnb hz hrows
  split at h
  case isFalse => cases h
  rename_i hcond
  obtain ⟨c1, c2, c3, c4, c5⟩ := hcond
  subst c1
  obtain ⟨inf, z0, hinf, i1, i2, i3, i4⟩ := info_of hn hnb hz
  have exec : ∀ (a : Act) (v1 v2 : Value) (w w' : World) (v : Value), a.eval x = v1 → a.eval y = v2 → (Builtin.append_ #[t, t] o.type #[v1, v2]).run P w = .ok v w' → (execOp a.eval o).run P w = .ok (.value v) w' := by
    intro a v1 v2 w w' v e1 e2 hr
    simp [execOp, ho, resolve, invoke, builtin, e1, e2, hr]
  split at h
  · rename_i hxe
    split at h
    case isFalse => cases h
    rename_i hc2
    obtain ⟨d1, d2⟩ := hc2
    cases h
    intro h hrd m w a rel hop
    have hx := hop x (by simp [ho, Op.operands, Call.operands])
    have hy := hop y (by simp [ho, Op.operands, Call.operands])
    rw [hxe] at hx
    have ex := hx.val_inv
    have hfr : h fresh = .unused := hrd (fresh, .unused) (by simp)
    obtain ⟨hw, hcase⟩ := read_rows rel hrows hl (fun p hp => hrd p (by simp [hp])) hy c2
    rcases hcase with ⟨e1, _⟩ | ⟨ad, cap, e1, hmx, news, n1, n2, n3⟩
    · rw [e1] at d1; simp at d1
    · have hb : new.length * inf.bytes ≤ 281474976710656 := by rw [i2]; omega
      have h63 : (new.length : Int) ≤ 9223372036854775807 := by
        have : new.length ≤ 140737488355328 := Nat.le_trans (Nat.le_mul_of_pos_right _ c3) d2
        omega
      have hrun := run_append_nil (P := P) w t o.type e inf z0 hu hinf i3 ad new.length cap news (by rw [i1]; exact n1) n2 (by omega) h63 hb
      have hge := grownCap_ge w new.length 0 e
      have hcm : grownCap w new.length 0 e ≤ maxLen := grownCap_le_maxLen w _ 0 e (by simp only [maxLen]; omega)
      generalize hgc : grownCap w new.length 0 e = gc at *
      have csz : (news.toArray ++ Builtin.zeroCells z0.cells (gc - new.length)).size = gc * sz := by
        simp only [Array.size_append, List.size_toArray, size_zeroCells, i4, c4, n1, ← Nat.add_mul]
        congr 1; omega
      have A := rel.alloc (w' := w.drew.alloc (.cells (news.toArray ++ Builtin.zeroCells z0.cells (gc - new.length)) e)) hfr ⟨sz, e, new⟩ _ rfl rfl rfl rfl (by rw [csz]; exact Nat.mul_le_mul_right _ hge) hw (by
        have := cells_zero_row hw n1 n3 (news.toArray ++ Builtin.zeroCells z0.cells (gc - new.length)) 0 (fun q u hq => by
          rw [Nat.zero_add, Array.getElem?_append_left (by simpa using (List.getElem?_eq_some_iff.1 hq).1)]; simpa using hq)
        simpa using this)
      refine ⟨_, _, _, _, exec a _ _ w _ _ ex e1 hrun, .inl rfl, A.1, A.2, ?_⟩
      have key := R.sl (m := m.at fresh (w.heap.size, 0)) (h := h.upd fresh (.live ⟨sz, e, new⟩)) (w := w.drew.alloc (.cells (news.toArray ++ Builtin.zeroCells z0.cells (gc - new.length)) e)) fresh 0 new.length ⟨sz, e, new⟩ (Hp.upd_same _ _ _) 0 gc (by simp) hge hcm (by simp [Nm.at_same])
        (fun cur e' f hc _ => by
          rw [Nm.at_same] at hc
          change (w.drew.alloc _).heap[w.drew.heap.size]? = _ at hc
          rw [heap_alloc_new] at hc
          cases hc
          rw [Nm.at_same, csz]; simp)
      rw [Nm.at_same] at key
      exact key
  · rename_i b i n hxe
    split at h
    case h_2 => cases h
    rename_i k hk
    split at h
    case isFalse => cases h
    rename_i hc2
    obtain ⟨d1, d2, d3, d5, d4⟩ := hc2
    cases h
    intro h hrd m w a rel hop
    have hx := hop x (by simp [ho, Op.operands, Call.operands])
    have hy := hop y (by simp [ho, Op.operands, Call.operands])
    rw [hxe] at hx
    have hb : h b = .live k := hrd (b, .live k) (by simp)
    have hfr : h fresh = .unused := hrd (fresh, .unused) (by simp)
    have hbf : b ≠ fresh := by rintro rfl; rw [hb] at hfr; cases hfr
    obtain ⟨hw, hcase⟩ := read_rows rel hrows hl (fun p hp => hrd p (by simp [hp])) hy c2
    obtain ⟨off, cap, ex, g1, g2, g3, g4, g5⟩ := R.sl_inv rel hb hx
    obtain ⟨cur, hcur, hcsz, hkrows, hkcells⟩ := rel.own b k hb
    have hdl : (k.rows.drop i).length = n := by rw [List.length_drop]; omega
    have hdw : ∀ row, row ∈ k.rows.drop i → row.length = sz := fun row hr => by rw [← d1]; exact hkrows row (List.mem_of_mem_drop hr)
    have hnw : ∀ row, row ∈ k.rows.drop i ++ new → row.length = sz := fun row hr => by
      rcases List.mem_append.1 hr with hr | hr
      · exact hdw row hr
      · exact hw row hr
    have upds : h.upds [(b, .dead), (fresh, .live ⟨sz, e, k.rows.drop i ++ new⟩)] = (h.upd b .dead).upd fresh (.live ⟨sz, e, k.rows.drop i ++ new⟩) := rfl
    have fhp : ((h.upd b .dead).upd fresh (.live ⟨sz, e, k.rows.drop i ++ new⟩)) fresh = .live ⟨sz, e, k.rows.drop i ++ new⟩ := Hp.upd_same _ _ _
    -- the old cells, as they lie
    have olds : ∀ (i' j : Nat) (row : List AV) (c : AV), (k.rows.drop i)[i']? = some row → row[j]? = some c → ∃ v, cur[(m.pl b).2 + i * sz + i' * sz + j]? = some v ∧ R m h w c v := fun i' j row c p q => by
      rw [List.getElem?_drop] at p
      obtain ⟨v, v1, v2⟩ := hkcells (i + i') j row c p q
      exact ⟨v, by rw [← v1, d1, Nat.add_mul, ← Nat.add_assoc], v2⟩
    -- nothing is appended, or there is room for it: the same block
    have inplace : ∀ (cur' : Array Value) (w' : World), w'.heap[(m.pl b).1]? = some (.cells cur' k.elem (0, 0)) → cur'.size = cur.size → w'.heap.size = w.heap.size → (∀ g, g ≠ (m.pl b).1 → w'.heap[g]? = w.heap[g]?) → w'.os = w.os → w'.tape = w.tape → w'.output = w.output →
        (execOp a.eval o).run P w = .ok (.value (.slice (some ⟨(m.pl b).1, off, none⟩) (n + new.length) cap)) w' → n + new.length ≤ cap → (m.pl b).2 + i * sz + (n + new.length) * sz ≤ cur.size →
        (∀ (i' j : Nat) (row : List AV) (c : AV), (k.rows.drop i ++ new)[i']? = some row → row[j]? = some c → ∃ v, cur'[(m.pl b).2 + i * sz + i' * sz + j]? = some v ∧ R m h w c v) →
        ∃ nx v m' w', (execOp a.eval o).run P w = .ok nx w' ∧ (nx = .value v ∨ nx = .skip ∧ v = undef) ∧ Rel m' (h.upds [(b, .dead), (fresh, .live ⟨sz, e, k.rows.drop i ++ new⟩)]) w' ∧ Ev m h w m' (h.upds [(b, .dead), (fresh, .live ⟨sz, e, k.rows.drop i ++ new⟩)]) w' ∧
          R m' (h.upds [(b, .dead), (fresh, .live ⟨sz, e, k.rows.drop i ++ new⟩)]) w' (.sl fresh 0 (n + new.length)) v := by
      intro cur' w' p1 p2 p3 p4 p5 p6 p7 hrun hle hfit hcells
      have M := rel.move (w' := w') hb hfr ((m.pl b).2 + i * sz) cur cur' hcur ⟨sz, e, k.rows.drop i ++ new⟩ d2.symm p1 p2 p3 p4 p5 p6 p7 (by simp only [List.length_append, hdl]; exact hfit) hnw hcells
      refine ⟨_, _, _, w', hrun, .inl rfl, M.1, M.2, ?_⟩
      rw [upds]
      have key := R.sl (m := m.at fresh ((m.pl b).1, (m.pl b).2 + i * sz)) (w := w') fresh 0 (n + new.length) _ fhp off cap (by simp only [List.length_append, hdl]; omega) hle g3 (fun hc => by rw [Nm.at_same, g4 hc, d1]; simp)
        (fun cur2 e' f hc hc0 => by
          rw [Nm.at_same, p1] at hc
          cases hc
          rw [Nm.at_same, p2]
          have := g5 cur _ _ hcur hc0
          rw [d1, Nat.add_mul] at this
          simp only [Nat.zero_add]
          omega)
      rw [Nm.at_same] at key
      exact key
    rcases hcase with ⟨e1, e2⟩ | ⟨ad, cap2, e2, hmx, news, n1, n2, n3⟩
    · -- nothing: a nil source
      subst e1
      refine inplace cur w (by rw [hcur]) rfl rfl (fun _ _ => rfl) rfl rfl rfl (exec a _ _ w w _ ex e2 ?_) (by simpa using g2) ?_ (by simpa using olds)
      · simp [Builtin.append_, run_underlying hu, sizeOf, typeInfo, hinf, Builtin.lenOf, Builtin.firstCells, g2, storeCells]
      · have := Nat.mul_le_mul_right sz (show i + n ≤ k.rows.length by omega)
        rw [Nat.add_mul] at this
        rw [d1] at hcsz
        simp; omega
    · by_cases hroom : n + new.length ≤ cap
      · by_cases hm0 : new.length = 0
        · -- nothing
          have hn0 : new = [] := List.eq_nil_of_length_eq_zero hm0
          subst hn0
          have hnews : news = [] := List.eq_nil_of_length_eq_zero (by simpa using n1)
          subst hnews
          refine inplace cur w (by rw [hcur]) rfl rfl (fun _ _ => rfl) rfl rfl rfl (exec a _ _ w w _ ex e2 ?_) hroom ?_ (by simpa using olds)
          · simp [Builtin.append_, run_underlying hu, sizeOf, typeInfo, hinf, Builtin.lenOf, Builtin.firstCells, g2, storeCells, loadCells, loadCellsFrom]
          · have := Nat.mul_le_mul_right sz (show i + n ≤ k.rows.length by omega)
            rw [Nat.add_mul] at this
            rw [d1] at hcsz
            simp; omega
        · -- there is room
          have hc0 : cap ≠ 0 := by omega
          have hoff := g4 hc0
          have hfit0 := g5 cur _ _ hcur hc0
          rw [d1, Nat.add_mul] at hfit0
          have hmul := Nat.mul_le_mul_right sz hroom
          have h1 := one_cells (news := news) (by rw [flat_len new hw]; exact n1) c5 n3
          rw [Nat.add_mul] at hmul
          have hfit1 : (m.pl b).2 + i * sz + n * sz + new.length * sz ≤ cur.size := by omega
          have hrun := run_append_at (P := P) w t t o.type e inf hu hu hinf (m.pl b).1 off n cap cur (by rw [hcur, d2]) ad new.length cap2 news (by rw [i1]; exact n1) n2 h1 hroom (by rw [hoff, i1, d1, n1]; omega)
          rw [i1, hoff, d1, n1] at hrun
          rw [hoff, d1] at ex
          rw [hoff, d1] at inplace
          refine inplace (cur.toList.take ((m.pl b).2 + i * sz + n * sz) ++ news ++ cur.toList.drop ((m.pl b).2 + i * sz + n * sz + new.length * sz)).toArray _ (setRow_heap_same w _ _ cur _ hcur) (by simp [n1]; omega) (by simp) (fun g hg => setRow_other w _ g _ hg) rfl rfl rfl
            (exec a _ _ w _ _ ex e2 hrun) hroom (by rw [Nat.add_mul]; omega) ?_
          intro i' j row c p q
          have hsp : ∀ qq, ((cur.toList.take ((m.pl b).2 + i * sz + n * sz) ++ news ++ cur.toList.drop ((m.pl b).2 + i * sz + n * sz + new.length * sz)).toArray)[qq]? =
              if (m.pl b).2 + i * sz + n * sz ≤ qq ∧ qq < (m.pl b).2 + i * sz + n * sz + new.length * sz then news[qq - ((m.pl b).2 + i * sz + n * sz)]? else cur.toList[qq]? := fun qq => by
            rw [List.getElem?_toArray]
            exact getElem?_splice cur.toList news _ _ qq n1 (by simp; omega)
          have hrl : row.length = sz := hnw row (List.mem_of_getElem? p)
          have hj : j < sz := by rw [← hrl]; exact (List.getElem?_eq_some_iff.1 q).1
          by_cases hi : i' < n
          · rw [List.getElem?_append_left (by omega)] at p
            obtain ⟨v, v1, v2⟩ := olds i' j row c p q
            refine ⟨v, ?_, v2⟩
            rw [hsp, if_neg ?_]
            · simpa using v1
            · have := Nat.mul_le_mul_right sz (show i' + 1 ≤ n by omega)
              rw [Nat.add_mul] at this
              omega
          · rw [List.getElem?_append_right (by omega), hdl] at p
            obtain ⟨v, v1, v2⟩ := cells_zero_row hw n1 n3 ((cur.toList.take ((m.pl b).2 + i * sz + n * sz) ++ news ++ cur.toList.drop ((m.pl b).2 + i * sz + n * sz + new.length * sz)).toArray) ((m.pl b).2 + i * sz + n * sz) (fun qq u hq => by
              have hlt := (List.getElem?_eq_some_iff.1 hq).1
              rw [hsp, if_pos (by omega)]
              rw [Nat.add_sub_cancel_left]; exact hq) (i' - n) j row c p q
            refine ⟨v, ?_, v2⟩
            rw [← v1]
            congr 1
            have : i' * sz = n * sz + (i' - n) * sz := by rw [← Nat.add_mul]; congr 1; omega
            omega
      · -- it grows
        obtain ⟨ovs, ov1, ov2⟩ := exists_list (p := fun q v => w.cell? ((⟨(m.pl b).1, off, none⟩ : Addr).add q) = some v ∧ ∀ c, (k.rows.drop i).flatten[q]? = some c → R m h w c v) (n * sz) (fun q hq => by
          have hn0 : n ≠ 0 := by rintro rfl; simp at hq
          have hoff := g4 (by omega)
          have hlt : q < (k.rows.drop i).flatten.length := by rw [flat_len _ hdw, hdl]; exact hq
          obtain ⟨row, r1, r2⟩ := flat_get _ hdw q _ (List.getElem?_eq_getElem hlt) c2
          obtain ⟨v, v1, v2⟩ := olds _ _ row _ r1 r2
          have e : q / sz * sz + q % sz = q := by rw [Nat.mul_comm]; exact Nat.div_add_mod q sz
          refine ⟨v, ?_, fun c hc => ?_⟩
          · rw [add_none, hoff, d1]
            simp only [World.cell?, hcur]
            rw [← v1, Nat.add_assoc _ (q / sz * sz), e]; rfl
          · rw [List.getElem?_eq_getElem hlt] at hc; cases hc; exact v2)
        have hb48 : Builtin.nextslicecap (n + new.length) cap * inf.bytes ≤ 281474976710656 := growslice_fits (by omega) (by rw [i2]; exact d4)
        have h63 : ((n + new.length : Nat) : Int) ≤ 9223372036854775807 := by
          have : n + new.length ≤ 140737488355328 := Nat.le_trans (Nat.le_mul_of_pos_right _ c3) d4
          omega
        have hrun := run_append_grow (P := P) w t o.type e inf z0 hu hinf i3 ⟨(m.pl b).1, off, none⟩ n cap ovs (by rw [i1]; exact ov1) (fun j v hj => (ov2 j v hj).1) ad new.length cap2 news (by rw [i1]; exact n1) n2 (by omega) h63 hb48
        have hge := grownCap_ge w (n + new.length) cap e
        have hcm : grownCap w (n + new.length) cap e ≤ maxLen := grownCap_le_maxLen w _ cap e (by simp only [maxLen]; omega)
        generalize hgc : grownCap w (n + new.length) cap e = gc at *
        have csz : (ovs.toArray ++ news.toArray ++ Builtin.zeroCells z0.cells (gc - (n + new.length))).size = gc * sz := by
          simp only [Array.size_append, List.size_toArray, size_zeroCells, i4, c4, n1, ov1, ← Nat.add_mul]
          congr 1; omega
        have ncl : (ovs ++ news).length = (k.rows.drop i ++ new).length * sz := by rw [List.length_append, List.length_append, hdl, ov1, n1, Nat.add_mul]
        have nR : ∀ (q : Nat) (c : AV) (u : Value), (k.rows.drop i ++ new).flatten[q]? = some c → (ovs ++ news)[q]? = some u → R m h w c u := fun q c u hc hu => by
          rw [List.flatten_append] at hc
          have fl := flat_len _ hdw
          rw [hdl] at fl
          by_cases hq : q < n * sz
          · rw [List.getElem?_append_left (by omega)] at hc hu
            exact (ov2 q u hu).2 c hc
          · rw [List.getElem?_append_right (by omega), fl] at hc
            rw [List.getElem?_append_right (by omega), ov1] at hu
            exact n3 _ c u hc hu
        have A := rel.alloc (w' := w.drew.alloc (.cells (ovs.toArray ++ news.toArray ++ Builtin.zeroCells z0.cells (gc - (n + new.length))) e)) hfr ⟨sz, e, k.rows.drop i ++ new⟩ _ rfl rfl rfl rfl
          (by rw [csz]; simp only [List.length_append, hdl]; exact Nat.mul_le_mul_right _ hge) hnw (by
            have := cells_zero_row hnw ncl nR (ovs.toArray ++ news.toArray ++ Builtin.zeroCells z0.cells (gc - (n + new.length))) 0 (fun q u hq => by
              have hlt := (List.getElem?_eq_some_iff.1 hq).1
              rw [Nat.zero_add, Array.getElem?_append_left (by simpa using hlt)]
              simpa using hq)
            simpa using this)
        have K := A.1.kill b (by rw [Hp.upd_ne _ _ hbf, hb]; simp)
        have comm : (h.upd fresh (.live ⟨sz, e, k.rows.drop i ++ new⟩)).upd b .dead = h.upds [(b, .dead), (fresh, .live ⟨sz, e, k.rows.drop i ++ new⟩)] := by
          rw [upds]
          funext q
          by_cases q1 : q = b
          · subst q1; rw [Hp.upd_same, Hp.upd_ne _ _ hbf, Hp.upd_same]
          · by_cases q2 : q = fresh
            · subst q2; rw [Hp.upd_ne _ _ q1, Hp.upd_same, Hp.upd_same]
            · rw [Hp.upd_ne _ _ q1, Hp.upd_ne _ _ q2, Hp.upd_ne _ _ q2, Hp.upd_ne _ _ q1]
        rw [comm] at K
        refine ⟨_, _, _, _, exec a _ _ w _ _ ex e2 hrun, .inl rfl, K.1, A.2.trans rel K.2, ?_⟩
        have hz2 : ∀ (cur2 : Array Value) (e' : TypeId) (f : Nat × Nat), (w.drew.alloc (.cells (ovs.toArray ++ news.toArray ++ Builtin.zeroCells z0.cells (gc - (n + new.length))) e)).heap[((m.at fresh (w.heap.size, 0)).pl fresh).1]? = some (.cells cur2 e' f) → gc ≠ 0 → ((m.at fresh (w.heap.size, 0)).pl fresh).2 + (0 + gc) * sz ≤ cur2.size := by
          intro cur2 e' f hc _
          rw [Nm.at_same] at hc
          change (w.drew.alloc _).heap[w.drew.heap.size]? = _ at hc
          rw [heap_alloc_new] at hc
          cases hc
          rw [Nm.at_same, csz]; simp
        have key := R.sl (m := m.at fresh (w.heap.size, 0)) (h := h.upds [(b, .dead), (fresh, .live ⟨sz, e, k.rows.drop i ++ new⟩)]) (w := w.drew.alloc (.cells (ovs.toArray ++ news.toArray ++ Builtin.zeroCells z0.cells (gc - (n + new.length))) e)) fresh 0 (n + new.length) ⟨sz, e, k.rows.drop i ++ new⟩ (by rw [upds]; exact fhp) 0 gc
          (by simp only [List.length_append, hdl]; omega) hge hcm (by simp [Nm.at_same]) hz2
        rw [Nm.at_same] at key
        exact key
  · cases h
end
end Go.Proofs.Ytjmjnndmpeeppaa

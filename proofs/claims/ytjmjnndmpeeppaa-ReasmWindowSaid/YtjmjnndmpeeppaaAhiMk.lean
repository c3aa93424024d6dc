/- Slices written out, make, copy, closures, on data. No condition. -/
import Derived.Test.YtjmjnndmpeeppaaAhiGrow
namespace Go.Proofs.Ytjmjnndmpeeppaa
open Go.RowKit
set_option linter.unusedVariables false
set_option linter.unusedSimpArgs false

section
variable {P : Program}

@[go_sem] def chunks (sz : Nat) (flat : List AV) (n : Nat) : List (List AV) := (List.range n).map fun i => (flat.drop (i * sz)).take sz

theorem chunks_row {sz n : Nat} {flat : List AV} (hf : flat.length = n * sz) : ∀ row, row ∈ chunks sz flat n → row.length = sz := by
  intro row hr
  simp only [chunks, List.mem_map, List.mem_range] at hr
  obtain ⟨i, hi, rfl⟩ := hr
  have := Nat.mul_le_mul_right sz (show i + 1 ≤ n from hi)
  rw [Nat.add_mul, Nat.one_mul] at this
  rw [List.length_take, List.length_drop]; omega
theorem chunks_get {sz n : Nat} {flat : List AV} {i j : Nat} {row : List AV} {c : AV} (h1 : (chunks sz flat n)[i]? = some row) (h2 : row[j]? = some c) : flat[i * sz + j]? = some c := by
  simp only [chunks, List.getElem?_map, Option.map_eq_some_iff] at h1
  obtain ⟨i', hi, rfl⟩ := h1
  have : i' = i := by
    have := (List.getElem?_eq_some_iff.1 hi)
    obtain ⟨_, h⟩ := this
    simp at h; exact h.symm
  subst this
  rw [List.getElem?_take] at h2
  split at h2
  · rw [List.getElem?_drop] at h2; exact h2
  · cases h2

/-- a slice of new cells -/
theorem alloc_flat {m : Nm} {h : Hp} {w : World} (rel : Rel m h w) {id : Nat} (hu : h id = .unused) (e : TypeId) (sz n : Nat) (flat : List AV) (vs : Array Value) (hl : flat.length = vs.size) (hf : flat.length = n * sz) (hn : n ≤ maxLen)
    (hc : ∀ (i : Nat) (c : AV) (v : Value), flat[i]? = some c → vs[i]? = some v → R m h w c v) :
    Rel (m.at id (w.heap.size, 0)) (h.upd id (.live ⟨sz, e, chunks sz flat n⟩)) (w.alloc (.cells vs e)) ∧ Ev m h w (m.at id (w.heap.size, 0)) (h.upd id (.live ⟨sz, e, chunks sz flat n⟩)) (w.alloc (.cells vs e)) ∧
      R (m.at id (w.heap.size, 0)) (h.upd id (.live ⟨sz, e, chunks sz flat n⟩)) (w.alloc (.cells vs e)) (.sl id 0 n) (.slice (some ⟨w.heap.size, 0, none⟩) n n) := by
  have cl : (chunks sz flat n).length = n := by simp [chunks]
  have A := rel.alloc (w' := w.alloc (.cells vs e)) hu ⟨sz, e, chunks sz flat n⟩ vs rfl rfl rfl rfl (by simp only [cl]; omega) (chunks_row hf) (fun i j row c h1 h2 => by
    have h3 := chunks_get h1 h2
    have hlt : i * sz + j < vs.size := by rw [← hl]; exact (List.getElem?_eq_some_iff.1 h3).1
    exact ⟨vs[i * sz + j], by simp [hlt], hc _ c _ h3 (by simp [hlt])⟩)
  refine ⟨A.1, A.2, ?_⟩
  have key := R.sl (m := m.at id (w.heap.size, 0)) (h := h.upd id (.live ⟨sz, e, chunks sz flat n⟩)) (w := w.alloc (.cells vs e)) id 0 n ⟨sz, e, chunks sz flat n⟩ (Hp.upd_same _ _ _) 0 n (by simp only [cl]; omega) (Nat.le_refl _) hn (by simp [Nm.at_same]) (by
    intro cur e' f hcc _
    rw [Nm.at_same, heap_alloc_new] at hcc
    cases hcc
    rw [Nm.at_same]; simp; omega)
  rw [Nm.at_same] at key
  exact key

@[go_sem] def abslice (P : Program) (t : TypeId) (len : Nat) (parts : List (Nat × AV)) (fresh : Nat) : Option Res :=
  match elemT P t with
  | some e => match sizeT P e, zeroT P e with
    | some n0, some z =>
      if len * n0 ≤ 16777216 ∧ len ≤ 16777216 ∧ 0 < n0 ∧ z.length = n0 then
        forceO ((List.range (len * n0)).map fun q => .val (z.getD (q % n0) undef)) fun c => (afill (fun i => some (i * n0, n0)) c parts).map fun flat => ⟨.sl fresh 0 len, [(fresh, .unused)], [(fresh, .live ⟨n0, e, chunks n0 flat len⟩)]⟩
      else none
    | _, _ => none
  | none => none

theorem afill_len {place : Nat → Option (Nat × Nat)} : ∀ (parts : List (Nat × AV)) (cells out : List AV), afill place cells parts = some out → out.length = cells.length
  | [], cells, out, h => by simp only [afill, Option.some.injEq] at h; rw [h]
  | p :: parts, cells, out, h => by
    simp only [afill, forceO_eq] at h
    split at h
    · cases h
    · split at h
      · rename_i hc
        rw [afill_len parts _ out h]
        simp [hc.1]; omega
      · cases h

theorem abslice_ok {s : List AV} {o : Oper} {t : TypeId} {len : Nat} {parts : Array (Nat × Operand)} (ho : o.op = .buildSlice t len parts) {fresh : Nat} {r : Res} (h : abslice P t len (parts.toList.map fun p => (p.1, ae s p.2)) fresh = some r) : OpL P o s r := by
  unfold abslice at h
  split at h
  case h_2 => cases h
  rename_i e he
  split at h
  case h_2 => cases h
  rename_i n0 z hn hz
  split at h
  case isFalse => cases h
  rename_i hc
  obtain ⟨c1, c2, c3, c5⟩ := hc
  simp only [forceO_eq, Option.map_eq_some_iff] at h
  obtain ⟨flat, hflat, rfl⟩ := h
  intro h hrd m w a rel hop
  have hu : h fresh = .unused := hrd (fresh, .unused) (by simp)
  obtain ⟨v, hv, hcs⟩ := run_zero hz w
  have hops : ∀ x, x ∈ parts.toList.map (·.2) → R m h w (ae s x) (a.eval x) := fun x hx => hop x (by simpa [ho, Op.operands] using hx)
  have hzz : ((Array.range (len * n0)).map (v.cells[· % v.cells.size]!)) = ((List.range (len * n0)).map fun q => z.getD (q % n0) undef).toArray := by
    rw [hcs]
    apply Array.ext
    · simp
    · intro q h1 h2
      simp at h1
      have hq : q % n0 < z.length := by rw [c5]; exact Nat.mod_lt _ c3
      simp [c5, hq, List.getD]
      rw [List.getElem?_eq_getElem hq]; rfl
  obtain ⟨vout, r1, r2, r3⟩ := afill_ok (m := m) (h := h) (w := w) (place := fun (i : Nat) => some (i * n0, n0)) _ (parts.toList.map fun p => (p.1, a.eval p.2)) _ ((Array.range (len * n0)).map (v.cells[· % v.cells.size]!)) flat hflat (by simp) (fun (i : Nat) (p : Nat × AV) (q : Nat × Value) hp hq => by
      simp only [List.getElem?_map, Option.map_eq_some_iff] at hp hq
      obtain ⟨p0, hp0, rfl⟩ := hp
      obtain ⟨q0, hq0, rfl⟩ := hq
      rw [hp0] at hq0
      cases hq0
      exact ⟨rfl, hops _ (List.mem_map.2 ⟨p0, List.mem_of_getElem? hp0, rfl⟩)⟩) (by simp) (fun i c v' h1 h2 => by
      rw [hzz] at h2
      simp only [List.getElem?_toArray, List.getElem?_map, Option.map_eq_some_iff] at h1 h2
      obtain ⟨q1, g1, rfl⟩ := h1
      obtain ⟨q2, g2, rfl⟩ := h2
      rw [g1] at g2
      cases g2
      exact .val _)
  have hfl := afill_len _ _ _ hflat
  simp only [List.length_map, List.length_range] at hfl
  have A := alloc_flat rel hu e n0 len flat vout r2 hfl (by unfold maxLen; omega) r3
  refine ⟨_, _, _, _, ?_, .inl rfl, A.1, A.2.1, A.2.2⟩
  have e0 : (parts.map fun x => match x with | (i, x) => (i, a.eval x)).toList = parts.toList.map fun p => (p.1, a.eval p.2) := by simp
  have hle : ¬ (16777216 < len * n0) := by omega
  simp only [execOp, ho, Instr.buildSlice, Sem.run_bind, run_underlying (elemT_inv he), Result.andThen_ok, run_sizeOf' hn, e0]
  rcases Nat.eq_zero_or_pos len with c4 | c4
  · subst c4
    simp only [Nat.zero_mul] at r1 ⊢
    have r1' : Instr.fill (fun (i : Nat) => some (i * n0, n0)) ((Array.range 0).map fun x => (#[] : Array Value)[x % (#[] : Array Value).size]!) (parts.toList.map fun p => (p.1, a.eval p.2)) = some vout := by
      have e : ∀ f : Nat → Value, (Array.range 0).map f = #[] := fun f => by apply Array.ext <;> simp
      rw [e] at r1 ⊢
      exact r1
    simp only [show ¬ (0 > 2 ^ 24) by omega, if_false, if_true, Sem.run_bind, Sem.run_pure, Result.andThen_ok, r1', run_new]
  · have hne : len * n0 ≠ 0 := by
      have := Nat.mul_pos c4 c3; omega
    simp only [show ¬ (len * n0 > 2 ^ 24) by omega, if_false, hne, Sem.run_bind, Sem.run_pure, Result.andThen_ok, hv, r1, run_new]

@[go_sem] def amake (P : Program) (t : TypeId) (l : Int) (fresh : Nat) : Option Res :=
  match elemT P t with
  | some e => match sizeT P e, bytesT P e, zeroT P e with
    | some n0, some nb, some z =>
      if 0 ≤ l ∧ (nb : Int) * l ≤ 281474976710656 ∧ l ≤ 9223372036854775807 ∧ 0 < n0 ∧ z.length = n0 then
        some ⟨.sl fresh 0 l.toNat, [(fresh, .unused)], [(fresh, .live ⟨n0, e, List.replicate l.toNat (z.map .val)⟩)]⟩
      else none
    | _, _, _ => none
  | none => none

theorem amake_ok {s : List AV} {o : Oper} {t : TypeId} {x y : Operand} (ho : o.op = .makeSlice t x y) {k k' : IntKind} {l : Int} (hx : ae s x = .val (.int k l)) (hy : ae s y = .val (.int k' l)) {fresh : Nat} {r : Res} (h : amake P t l fresh = some r) : OpL P o s r := by
  unfold amake at h
  split at h
  case h_2 => cases h
  rename_i e he
  split at h
  case h_2 => cases h
  rename_i n0 nb z hn hnb hz
  split at h
  case isFalse => cases h
  rename_i hc
  obtain ⟨c1, c2, c3, c4, c5⟩ := hc
  cases h
  obtain ⟨inf, z0, hinf, i1, i2, i3, i4⟩ := info_of hn hnb hz
  intro h hrd m w a rel hop
  have hu : h fresh = .unused := hrd (fresh, .unused) (by simp)
  have h1 := hop x (by simp [ho, Op.operands])
  have h2 := hop y (by simp [ho, Op.operands])
  rw [hx] at h1
  rw [hy] at h2
  have hrun := run_make (P := P) w t e inf z0 (elemT_inv he) hinf i3 k k' l l c1 (by omega) (by rw [i2]; exact c2) c3
  have hcz : z0.cells = z.toArray := by
    obtain ⟨v, hv, hcs⟩ := run_zero hz w
    simp [zeroValue, typeInfo, hinf, i3] at hv
    rw [hv]; exact hcs
  have rl : (List.replicate l.toNat (z.map AV.val)).length = l.toNat := by simp
  have A := rel.alloc (w' := w.alloc (.cells (madeCells z0.cells (l.toNat * inf.size)) e)) hu ⟨n0, e, List.replicate l.toNat (z.map .val)⟩ _ rfl rfl rfl rfl (by simp [size_madeCells, i1]) (fun row hr => by rw [(List.mem_replicate.1 hr).2]; simp [c5]) (fun i j row c p q => by
    have hi : i < l.toNat := by
      have := (List.getElem?_eq_some_iff.1 p).1
      simpa using this
    rw [List.getElem?_replicate, if_pos hi] at p
    cases p
    simp only [List.getElem?_map, Option.map_eq_some_iff] at q
    obtain ⟨u, hu1, rfl⟩ := q
    have hj : j < n0 := by rw [← c5]; exact (List.getElem?_eq_some_iff.1 hu1).1
    have hmul := Nat.mul_le_mul_right n0 (show i + 1 ≤ l.toNat from hi)
    rw [Nat.add_mul, Nat.one_mul] at hmul
    refine ⟨u, ?_, .val u⟩
    have hlt : i * n0 + j < l.toNat * n0 := by omega
    have hmod : (i * n0 + j) % n0 = j := by rw [Nat.mul_comm, Nat.mul_add_mod, Nat.mod_eq_of_lt hj]
    obtain ⟨hj2, hju⟩ := List.getElem?_eq_some_iff.1 hu1
    simp [madeCells, i1, hlt, hcz, c5, hmod]
    rw [hu1]; rfl)
  refine ⟨_, .slice (some ⟨w.heap.size, 0, none⟩) l.toNat l.toNat, _, _, ?_, .inl rfl, A.1, A.2, ?_⟩
  · simp [execOp, ho, h1.val_inv, h2.val_inv, hrun]
  · have key := R.sl (m := m.at fresh (w.heap.size, 0)) (h := h.upd fresh (.live ⟨n0, e, List.replicate l.toNat (z.map .val)⟩)) (w := w.alloc (.cells (madeCells z0.cells (l.toNat * inf.size)) e)) fresh 0 l.toNat ⟨n0, e, List.replicate l.toNat (z.map .val)⟩ (Hp.upd_same _ _ _) 0 l.toNat (by simp) (Nat.le_refl _) (by unfold maxLen; omega) (by simp [Nm.at_same]) (by
      intro cur e' f hcc _
      rw [Nm.at_same, heap_alloc_new] at hcc
      cases hcc
      rw [Nm.at_same]; simp [size_madeCells, i1])
    rw [Nm.at_same] at key
    exact key

/-- a closure -/
theorem aclo_ok {s : List AV} {o : Oper} {f : FuncId} {caps : Array Operand} (ho : o.op = .makeFunc (.func f) #[] caps) : OpL P o s ⟨.clo f (caps.toList.map (ae s)), [], []⟩ :=
  OpL.pure fun m hh w a rel hop => by
    refine ⟨.func (.func f) #[] (caps.map a.eval), by simp [execOp, ho, Instr.makeFunc], .clo _ _ _ (by simp) fun i c v h1 h2 => ?_⟩
    simp only [List.getElem?_map, Option.map_eq_some_iff, Array.getElem?_map] at h1 h2
    obtain ⟨x, hx, rfl⟩ := h1
    obtain ⟨y, hy, rfl⟩ := h2
    have hx' : caps[i]? = some x := by simpa using hx
    rw [hx'] at hy
    cases hy
    exact hop x (by simp [ho, Op.operands]; exact Array.mem_of_getElem? hx')
end
end Go.Proofs.Ytjmjnndmpeeppaa

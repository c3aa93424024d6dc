/- What operations that make memory come to on data: new variables, structs and slices written out, 'make'; addresses of elements. No condition. -/
import Derived.Test.YtjmjnndmpeeppaaAhiNew
namespace Go.Proofs.Ytjmjnndmpeeppaa
open Go.RowKit
set_option linter.unusedVariables false
set_option linter.unusedSimpArgs false

section
variable {P : Program}

theorem run_new (w : World) (e : TypeId) (cs : Array Value) : (newRow e cs).run P w = .ok ⟨w.heap.size, 0, none⟩ (w.alloc (.cells cs e)) := by
  simp [newRow]

/-- one row of cells in a new block -/
theorem alloc_row {m : Nm} {h : Hp} {w : World} (rel : Rel m h w) {id : Nat} (hu : h id = .unused) (e : TypeId) (row : List AV) (vs : Array Value) (hl : row.length = vs.size)
    (hc : ∀ (i : Nat) (c : AV) (v : Value), row[i]? = some c → vs[i]? = some v → R m h w c v) :
    Rel (m.at id (w.heap.size, 0)) (h.upd id (.live ⟨row.length, e, [row]⟩)) (w.alloc (.cells vs e)) ∧ Ev m h w (m.at id (w.heap.size, 0)) (h.upd id (.live ⟨row.length, e, [row]⟩)) (w.alloc (.cells vs e)) := by
  refine rel.alloc hu ⟨row.length, e, [row]⟩ vs rfl rfl rfl rfl (by simp [hl]) (by simp) fun i j row' c h1 h2 => ?_
  have hi : i = 0 := by
    have := (List.getElem?_eq_some_iff.1 h1).1
    simp at this; exact this
  subst hi
  simp at h1
  subst h1
  have hj : j < row.length := (List.getElem?_eq_some_iff.1 h2).1
  exact ⟨vs[j]'(by omega), by simp [show j < vs.size by omega], hc j c _ h2 (by simp [show j < vs.size by omega])⟩

@[go_sem] def aalloc (P : Program) (t : TypeId) (fresh : Nat) : Option Res :=
  (zeroT P t).map fun z => ⟨.ptr fresh 0 0, [(fresh, .unused)], [(fresh, .live ⟨z.length, t, [z.map .val]⟩)]⟩

theorem aalloc_ok {s : List AV} {o : Oper} {t : TypeId} (ho : o.op = .alloc t) {fresh : Nat} {r : Res} (h : aalloc P t fresh = some r) : OpL P o s r := by
  simp only [aalloc, Option.map_eq_some_iff] at h
  obtain ⟨z, hz, rfl⟩ := h
  intro h hrd m w a rel hop
  have hu : h fresh = .unused := hrd (fresh, .unused) (by simp)
  obtain ⟨v, hv, hcs⟩ := run_zero hz w
  have A := alloc_row rel hu t (z.map .val) v.cells (by simp [hcs]) (fun i c v' h1 h2 => by
    rw [hcs] at h2
    simp at h1 h2
    obtain ⟨u, hu1, rfl⟩ := h1
    rw [hu1] at h2
    cases h2
    exact .val _)
  simp only [List.length_map] at A
  refine ⟨_, .pointer (some ⟨w.heap.size, 0, none⟩), _, _, ?_, .inl rfl, A.1, A.2, ?_⟩
  · simp [execOp, ho, Instr.alloc, hv, newVar, run_new]
  · have := R.ptr (m := m.at fresh (w.heap.size, 0)) (h := h.upd fresh (.live ⟨z.length, t, [z.map .val]⟩)) (w := w.alloc (.cells v.cells t)) fresh 0 0 _ (Hp.upd_same _ _ _)
    simpa [Nm.at_same, Hp.upds] using this

@[go_sem] def abox (t : TypeId) (x : AV) (fresh : Nat) : Option Res :=
  if x.cells.all AV.one = true then some ⟨.ptr fresh 0 0, [(fresh, .unused)], [(fresh, .live ⟨x.cells.length, t, [x.cells]⟩)]⟩ else none

theorem abox_ok {s : List AV} {o : Oper} {t : TypeId} {x : Operand} (ho : o.op = .box t x) {fresh : Nat} {r : Res} (h : abox t (ae s x) fresh = some r) : OpL P o s r := by
  unfold abox at h
  split at h
  case isFalse => cases h
  rename_i hall
  cases h
  intro h hrd m w a rel hop
  have hu : h fresh = .unused := hrd (fresh, .unused) (by simp)
  have hx := hop x (by simp [ho, Op.operands])
  generalize ae s x = c at *
  obtain ⟨cl, cR⟩ := hx.cells hall
  have A := alloc_row rel hu t c.cells (a.eval x).cells cl cR
  refine ⟨_, .pointer (some ⟨w.heap.size, 0, none⟩), _, _, ?_, .inl rfl, A.1, A.2, ?_⟩
  · simp [execOp, ho, Instr.box, newVar, run_new]
  · have := R.ptr (m := m.at fresh (w.heap.size, 0)) (h := h.upd fresh (.live ⟨c.cells.length, t, [c.cells]⟩)) (w := w.alloc (.cells (a.eval x).cells t)) fresh 0 0 _ (Hp.upd_same _ _ _)
    simpa [Nm.at_same, Hp.upds] using this

/-! ### structs and slices written out -/

/-- a list, spelled out ahead of what follows -/
def forceO {α β : Type} : List α → (List α → Option β) → Option β
  | [], K => K []
  | x :: xs, K => forceO xs fun ys => K (x :: ys)
theorem forceO_eq {α β : Type} : ∀ (l : List α) (K : List α → Option β), forceO l K = K l
  | [], K => rfl
  | x :: xs, K => forceO_eq xs _
@[go_sem] def afill (place : Nat → Option (Nat × Nat)) (cells : List AV) : List (Nat × AV) → Option (List AV)
  | [] => some cells
  | p :: rest =>
    match place p.1 with
    | none => none
    | some q => if p.2.cells.length = q.2 ∧ q.1 + q.2 ≤ cells.length ∧ p.2.cells.all AV.one = true then forceO (cells.take q.1 ++ p.2.cells ++ cells.drop (q.1 + q.2)) fun cells => afill place cells rest else none

theorem foldl_set (off : Nat) : ∀ (l : List Value) (k : Nat) (cells : Array Value), off + k + l.length ≤ cells.size →
    ((l.zipIdx k).foldl (fun (cs : Array Value) (p : Value × Nat) => cs.setIfInBounds (off + p.2) p.1) cells).toList = cells.toList.take (off + k) ++ l ++ cells.toList.drop (off + k + l.length)
  | [], k, cells, _ => by simp
  | v :: l, k, cells, h => by
    have h' : off + k + (l.length + 1) ≤ cells.size := by simpa using h
    simp only [List.zipIdx_cons, List.foldl_cons]
    rw [foldl_set off l (k + 1) (cells.setIfInBounds (off + k) v) (by simp; omega), Array.toList_setIfInBounds]
    have e := list_seg_step cells.toList (off + k) v l (by simp; omega)
    simpa [Nat.add_assoc] using e

theorem afill_ok {m : Nm} {h : Hp} {w : World} {place : Nat → Option (Nat × Nat)} : ∀ (parts : List (Nat × AV)) (vparts : List (Nat × Value)) (cells : List AV) (vcells : Array Value) (out : List AV),
    afill place cells parts = some out → parts.length = vparts.length → (∀ (i : Nat) (p : Nat × AV) (q : Nat × Value), parts[i]? = some p → vparts[i]? = some q → p.1 = q.1 ∧ R m h w p.2 q.2) →
    cells.length = vcells.size → (∀ (i : Nat) (c : AV) (v : Value), cells[i]? = some c → vcells[i]? = some v → R m h w c v) →
    ∃ vout : Array Value, Instr.fill place vcells vparts = some vout ∧ out.length = vout.size ∧ ∀ (i : Nat) (c : AV) (v : Value), out[i]? = some c → vout[i]? = some v → R m h w c v
  | [], [], cells, vcells, out, h1, _, _, hl, hR => by
    simp only [afill, Option.some.injEq] at h1
    subst h1
    exact ⟨vcells, rfl, hl, hR⟩
  | [], _ :: _, _, _, _, _, h2, _, _, _ => by simp at h2
  | _ :: _, [], _, _, _, _, h2, _, _, _ => by simp at h2
  | p :: parts, q :: vparts, cells, vcells, out, h1, h2, h3, hl, hR => by
    obtain ⟨i, c⟩ := p
    obtain ⟨i', v⟩ := q
    obtain ⟨e, hcv⟩ := h3 0 (i, c) (i', v) rfl rfl
    simp only at e hcv
    subst e
    simp only [afill, forceO_eq] at h1
    split at h1
    · cases h1
    · rename_i q hq
      obtain ⟨off, size⟩ := q
      simp only at h1
      split at h1
      · rename_i hcond
        obtain ⟨c1, c2, c3⟩ := hcond
        obtain ⟨cl, cR⟩ := hcv.cells c3
        have hvs : v.cells.size = size := by omega
        have hf := foldl_set off v.cells.toList 0 vcells (by simp; omega)
        simp only [Nat.add_zero, Array.length_toList, hvs] at hf
        generalize hW : (v.cells.toList.zipIdx 0).foldl (fun (cs : Array Value) (p : Value × Nat) => cs.setIfInBounds (off + p.2) p.1) vcells = W at hf
        have hWs : W.size = vcells.size := by
          have := congrArg List.length hf
          simp [hvs] at this
          omega
        obtain ⟨vout, r1, r2, r3⟩ := afill_ok parts vparts _ W out h1 (by simpa using h2) (fun i p q hp hq => h3 (i + 1) p q (by simpa using hp) (by simpa using hq)) (by simp [c1]; omega)
          (fun i x u hx hu => by
            rw [getElem?_splice cells c.cells off size i c1 c2] at hx
            have hu' : W.toList[i]? = some u := by simpa using hu
            rw [hf, getElem?_splice vcells.toList v.cells.toList off size i (by simpa using hvs) (by simp; omega)] at hu'
            split at hx
            · rename_i hin
              rw [if_pos hin] at hu'
              exact cR (i - off) x u hx (by simpa using hu')
            · rename_i hout
              rw [if_neg hout] at hu'
              exact hR i x u hx (by simpa using hu'))
        refine ⟨vout, ?_, r2, r3⟩
        simp only [Instr.fill, hq]
        rw [if_neg (by simp [hvs]; omega)]
        rw [← r1]
        congr 1
        rw [← hW, ← Array.foldl_toList, Array.toList_zipIdx]
      · cases h1

@[go_sem] def placesT (P : Program) (t : TypeId) (i : Nat) : Option (Nat × Nat) := (fieldsT P t).bind fun l => l[i]?
@[go_sem] def abuild (P : Program) (t : TypeId) (parts : List (Nat × AV)) : Option AV :=
  match fieldsT P t, zeroT P t with
  | some l, some z => forceO (z.map .val) fun c => (afill (fun i => l[i]?) c parts).map .agg
  | _, _ => none

theorem mapM_places {fs : List Field} {l : List (Nat × Nat)} : (fs.mapM fun x => (sizeT P x.type).map fun n => (x.offset, n)) = some l → ∀ (w : World), (fs.mapM fun f => (do pure (f.offset, ← sizeOf f.type) : Sem (Nat × Nat))).run P w = .ok l w := by
  induction fs generalizing l with
  | nil => intro h w; simp at h; subst h; simp
  | cons f fs ih =>
    intro h w
    simp only [List.mapM_cons, Option.bind_eq_bind, Option.bind_eq_some_iff, Option.map_eq_some_iff, Option.pure_def, Option.some.injEq] at h
    obtain ⟨a, ⟨n, hn, rfl⟩, l', hl', rfl⟩ := h
    simp only [List.mapM_cons, Sem.run_bind, run_sizeOf' hn, Result.andThen_ok, Sem.run_pure, ih hl']

theorem abuild_ok {s : List AV} {o : Oper} {t : TypeId} {parts : Array (Nat × Operand)} (ho : o.op = .build t parts) {av : AV} (h : abuild P t (parts.toList.map fun p => (p.1, ae s p.2)) = some av) : OpL P o s ⟨av, [], []⟩ :=
  OpL.pure fun m hh w a rel hop => by
    unfold abuild at h
    split at h
    case h_2 => cases h
    rename_i l z hl hz
    simp only [forceO_eq, Option.map_eq_some_iff] at h
    obtain ⟨out, hout, rfl⟩ := h
    obtain ⟨v, hv, hcs⟩ := run_zero hz w
    have hops : ∀ x, x ∈ parts.toList.map (·.2) → R m hh w (ae s x) (a.eval x) := fun x hx => hop x (by simpa [ho, Op.operands] using hx)
    obtain ⟨vout, r1, r2, r3⟩ := afill_ok (m := m) (h := hh) (w := w) (place := fun (i : Nat) => l[i]?) _ (parts.toList.map fun p => (p.1, a.eval p.2)) _ v.cells out hout (by simp) (fun (i : Nat) (p : Nat × AV) (q : Nat × Value) hp hq => by
        simp only [List.getElem?_map, Option.map_eq_some_iff] at hp hq
        obtain ⟨p0, hp0, rfl⟩ := hp
        obtain ⟨q0, hq0, rfl⟩ := hq
        rw [hp0] at hq0
        cases hq0
        exact ⟨rfl, hops _ (List.mem_map.2 ⟨p0, List.mem_of_getElem? hp0, rfl⟩)⟩) (by simp [hcs]) (fun i c v' h1 h2 => by
        rw [hcs] at h2
        simp at h1 h2
        obtain ⟨u, hu1, rfl⟩ := h1
        rw [hu1] at h2
        cases h2
        exact .val _)
    refine ⟨.agg vout, ?_, .agg _ _ r2 r3⟩
    simp only [fieldsT, Option.bind_eq_some_iff] at hl
    obtain ⟨d, hd, hl⟩ := hl
    cases d <;> simp only [reduceCtorEq] at hl
    rename_i fs
    have hm := mapM_places hl w
    have hm' : (fs.mapM fun f => (do pure (f.offset, ← sizeOf f.type) : Sem (Nat × Nat))).run P w = .ok l.toArray w := by
      rw [Array.mapM_eq_mapM_toList, Sem.run_map, hm]
      rfl
    simp only [execOp, ho, Instr.build, Sem.run_bind, hv, Result.andThen_ok, run_underlying hd, hm', Sem.run_pure]
    have e : (parts.map fun x => match x with | (i, x) => (i, a.eval x)).toList = parts.toList.map fun p => (p.1, a.eval p.2) := by simp
    rw [e]
    simp [r1]
end
end Go.Proofs.Ytjmjnndmpeeppaa

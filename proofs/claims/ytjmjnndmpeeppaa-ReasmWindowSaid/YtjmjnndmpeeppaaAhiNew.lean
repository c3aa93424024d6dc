/- What further operations come to on data: new blocks, structs by value, addresses of parts, slices. No condition. -/
import Derived.Test.YtjmjnndmpeeppaaAhiMem
namespace Go.Proofs.Ytjmjnndmpeeppaa
open Go.RowKit
set_option linter.unusedVariables false
set_option linter.unusedSimpArgs false

section
variable {P : Program}

/-! ### values -/
theorem aval_move {s : List AV} {o : Oper} {x : Operand} (ho : o.op = .move x ∨ o.op = .assign x) : OpL P o s ⟨ae s x, [], []⟩ :=
  OpL.pure fun m h w a rel hop => by
    rcases ho with ho | ho <;> exact ⟨a.eval x, by simp [execOp, ho], hop x (by simp [ho, Op.operands])⟩

@[go_sem] def apick (c a b : AV) : Option AV := match c with | .val (.bool t) => some (if t then a else b) | _ => none
theorem apick_ok {s : List AV} {o : Oper} {c x y : Operand} (ho : o.op = .pick c x y) {av : AV} (h : apick (ae s c) (ae s x) (ae s y) = some av) : OpL P o s ⟨av, [], []⟩ :=
  OpL.pure fun m hh w a rel hop => by
    have hc := hop c (by simp [ho, Op.operands])
    have hx := hop x (by simp [ho, Op.operands])
    have hy := hop y (by simp [ho, Op.operands])
    unfold apick at h
    split at h
    · rename_i t ht
      rw [ht] at hc
      have e := hc.val_inv
      cases h
      refine ⟨if t then a.eval x else a.eval y, by simp [execOp, ho, e, asBool], ?_⟩
      cases t <;> simpa
    · cases h

theorem abin_ok {s : List AV} {o : Oper} {op : BinOp} {t u : TypeId} {x y : Operand} (ho : o.op = .binOp op t x y u) {v1 v2 r : Value} (h1 : ae s x = .val v1) (h2 : ae s y = .val v2) (h : abin op v1 v2 = some r) : OpL P o s ⟨.val r, [], []⟩ :=
  OpL.pure fun m hh w a rel hop => by
    have hx := hop x (by simp [ho, Op.operands])
    have hy := hop y (by simp [ho, Op.operands])
    rw [h1] at hx
    rw [h2] at hy
    have e1 := hx.val_inv
    have e2 := hy.val_inv
    have hr := abin_run (P := P) (w := w) (t := t) (x := x) (y := y) h
    refine ⟨r, ?_, .val r⟩
    simp only [execOp, ho, e1, e2, Sem.run_bind (x := (do eqGuard op t x y v1 v2; binOp op t v1 v2 : Sem Value)), hr, Result.andThen_ok, Sem.run_pure]

theorem aun_ok {s : List AV} {o : Oper} {op : UnOp} {t : TypeId} {x : Operand} (ho : o.op = .unOp op t x) {v1 r : Value} (h1 : ae s x = .val v1) (h : aun op v1 = some r) : OpL P o s ⟨.val r, [], []⟩ :=
  OpL.pure fun m hh w a rel hop => by
    have hx := hop x (by simp [ho, Op.operands])
    rw [h1] at hx
    refine ⟨r, ?_, .val r⟩
    simp [execOp, ho, hx.val_inv, aun_run h]

def intT (P : Program) (t : TypeId) : Option IntKind := (P.underlying t).bind fun | .int k => some k | _ => none
@[go_sem] def aconv (P : Program) (src dst : TypeId) (x : AV) : Option AV :=
  match intT P dst, undT P src, x with
  | some k, true, .val (.int _ n) => some (.val (.int k (k.wrap n)))
  | _, _, _ => none
theorem aconv_ok {s : List AV} {o : Oper} {src dst : TypeId} {x : Operand} (ho : o.op = .convert src dst x) {av : AV} (h : aconv P src dst (ae s x) = some av) : OpL P o s ⟨av, [], []⟩ :=
  OpL.pure fun m hh w a rel hop => by
    have hx := hop x (by simp [ho, Op.operands])
    unfold aconv at h
    split at h
    · rename_i k k' n h1 h2 h3
      rw [h3] at hx
      cases h
      obtain ⟨d, h2⟩ := Option.isSome_iff_exists.1 h2
      refine ⟨_, ?_, .val _⟩
      simp only [intT, Option.bind_eq_some_iff] at h1
      obtain ⟨d1, hd1, hk⟩ := h1
      cases d1 <;> simp at hk
      subst hk
      simp [execOp, ho, hx.val_inv, convert, run_underlying h2, run_underlying hd1, Conv.intToInt]
    · cases h

@[go_sem] def anil (x : AV) : Option AV := match x with | .ptr b i j => some (.ptr b i j) | .lptr r row j => some (.lptr r row j) | .clo f c => some (.clo f c) | _ => none
@[go_sem] def alive (look : Nat → Own) : AV → Option (List (Nat × Own))
  | .ptr b _ _ => match look b with | .live k => some [(b, .live k)] | _ => none
  | .lptr r _ _ => match look r with | .perm => some [(r, .perm)] | .uniq => some [(r, .uniq)] | _ => none
  | .sl b _ _ => match look b with | .live k => some [(b, .live k)] | _ => none
  | .list r _ _ => match look r with | .perm => some [(r, .perm)] | .uniq => some [(r, .uniq)] | _ => none
  | .glist r _ _ => match look r with | .perm => some [(r, .perm)] | .uniq => some [(r, .uniq)] | _ => none
  | _ => some []

theorem alive_ptr {look : Nat → Own} {b i j : Nat} {rd : List (Nat × Own)} (h : alive look (.ptr b i j) = some rd) : ∃ k, rd = [(b, .live k)] := by
  simp only [alive] at h
  split at h
  · cases h; exact ⟨_, rfl⟩
  · cases h
theorem alive_lptr {look : Nat → Own} {r j : Nat} {row : List AV} {rd : List (Nat × Own)} (h : alive look (.lptr r row j) = some rd) : ∃ kd : Own, kd.imm ∧ rd = [(r, kd)] := by
  simp only [alive] at h
  split at h
  · cases h; exact ⟨.perm, trivial, rfl⟩
  · cases h; exact ⟨.uniq, trivial, rfl⟩
  · cases h
theorem alive_sl {look : Nat → Own} {b i j : Nat} {rd : List (Nat × Own)} (h : alive look (.sl b i j) = some rd) : ∃ k, rd = [(b, .live k)] := by
  simp only [alive] at h
  split at h
  · cases h; exact ⟨_, rfl⟩
  · cases h
theorem alive_list {look : Nat → Own} {r j : Nat} {row : List (List AV)} {rd : List (Nat × Own)} (h : alive look (.list r j row) = some rd) : ∃ kd : Own, kd.imm ∧ rd = [(r, kd)] := by
  simp only [alive] at h
  split at h
  · cases h; exact ⟨.perm, trivial, rfl⟩
  · cases h; exact ⟨.uniq, trivial, rfl⟩
  · cases h
theorem alive_glist {look : Nat → Own} {r j : Nat} {row : List (List AV)} {rd : List (Nat × Own)} (h : alive look (.glist r j row) = some rd) : ∃ kd : Own, kd.imm ∧ rd = [(r, kd)] := by
  simp only [alive] at h
  split at h
  · cases h; exact ⟨.perm, trivial, rfl⟩
  · cases h; exact ⟨.uniq, trivial, rfl⟩
  · cases h

/-- it only computes, of live names -/
theorem OpL.pureR {o : Oper} {s : List AV} {av : AV} {rd : List (Nat × Own)} (H : ∀ (m : Nm) (h : Hp) (w : World) (a : Act), (∀ p ∈ rd, h p.1 = p.2) → Rel m h w → (∀ x ∈ o.op.operands, R m h w (ae s x) (a.eval x)) → ∃ v, (execOp a.eval o).run P w = .ok (.value v) w ∧ R m h w av v) : OpL P o s ⟨av, rd, []⟩ := by
  intro h hrd m w a rel hop
  obtain ⟨v, h1, h2⟩ := H m h w a hrd rel hop
  exact ⟨_, v, m, w, h1, .inl rfl, rel, Ev.refl m h w, h2⟩

theorem anil_ok {s : List AV} {o : Oper} {x : Operand} (ho : o.op = .nilCheck x) {look : Nat → Own} {av : AV} {rd : List (Nat × Own)} (h : anil (ae s x) = some av) (hl : alive look (ae s x) = some rd) : OpL P o s ⟨av, rd, []⟩ :=
  OpL.pureR fun m hh w a hrd rel hop => by
    have hx := hop x (by simp [ho, Op.operands])
    unfold anil at h
    split at h
    · rename_i b i j e
      rw [e] at hx hl
      cases h
      obtain ⟨k, rfl⟩ := alive_ptr hl
      obtain ⟨e2, _⟩ := R.ptr_row rel (hrd (b, .live k) (by simp)) hx
      exact ⟨a.eval x, by simp [execOp, ho, e2], hx⟩
    · rename_i r row j e
      rw [e] at hx hl
      cases h
      obtain ⟨kd, hk, rfl⟩ := alive_lptr hl
      obtain ⟨g, off, e2, _⟩ := R.lptr_row (by rw [hrd (r, kd) (by simp)]; exact hk) hx
      exact ⟨a.eval x, by simp [execOp, ho, e2], hx⟩
    · rename_i f c e
      rw [e] at hx
      cases h
      cases hx' : a.eval x <;> rw [hx'] at hx <;> (try (cases hx; done))
      rename_i fn first cap
      cases hx with
      | clo _ _ _ hl hc => exact ⟨_, by simp only [execOp, ho, hx', Sem.run_pure], .clo _ _ _ hl hc⟩
    · cases h

/-! ### parts of structs -/

@[go_sem] def afield (P : Program) (t : TypeId) (f : Nat) (x : AV) : Option AV :=
  match fieldT P t f, x with
  | some (off, ft, n), .agg cs => match isAggT P ft with
    | some true => if off + n ≤ cs.length then some (.agg ((cs.drop off).take n)) else none
    | some false => cs[off]?
    | none => none
  | _, _ => none

theorem fieldT_inv {t : TypeId} {f : Nat} {off n : Nat} {ft : TypeId} (h : fieldT P t f = some (off, ft, n)) : ∃ (fs : Array Field) (x : Field), P.underlying t = some (.struct fs) ∧ fs[f]? = some x ∧ x.offset = off ∧ x.type = ft ∧ sizeT P ft = some n := by
  simp only [fieldT, Option.bind_eq_some_iff] at h
  obtain ⟨d, hd, h⟩ := h
  cases d <;> simp only [reduceCtorEq, Option.bind_eq_some_iff, Option.map_eq_some_iff, Prod.mk.injEq] at h
  rename_i fs
  obtain ⟨x, hx, n', hn, rfl, rfl, rfl⟩ := h
  exact ⟨fs, x, hd, hx, rfl, rfl, hn⟩

theorem extract_toList (a : Array Value) (i n : Nat) : (a.extract i (i + n)).toList = (a.toList.drop i).take n := by
  simp [List.take_drop]

theorem afield_ok {s : List AV} {o : Oper} {t : TypeId} {x : Operand} {f : Nat} (ho : o.op = .field t x f) {av : AV} (h : afield P t f (ae s x) = some av) : OpL P o s ⟨av, [], []⟩ :=
  OpL.pure fun m hh w a rel hop => by
    have hx := hop x (by simp [ho, Op.operands])
    unfold afield at h
    split at h
    · rename_i off ft n cs h1 h2
      rw [h2] at hx
      obtain ⟨fs, fl, hu, hf, ho1, ho2, hn⟩ := fieldT_inv h1
      generalize hev : a.eval x = v at hx
      cases hx with
      | agg _ vs hl hc =>
        split at h
        · rename_i hag
          split at h
          · rename_i hle
            cases h
            refine ⟨.agg (vs.extract off (off + n)), ?_, ?_⟩
            · simp [execOp, ho, hev, Instr.field, run_underlying hu, hf, asAgg, part, ho1, ho2, run_isAgg hag, run_sizeOf' hn]
            · refine .agg _ _ (by simp; omega) fun i c v h3 h4 => ?_
              rw [List.getElem?_take] at h3
              split at h3
              · rw [List.getElem?_drop] at h3
                rw [Array.getElem?_extract] at h4
                split at h4
                · exact hc (off + i) c v h3 h4
                · cases h4
              · cases h3
          · cases h
        · rename_i hag
          have hlt : off < cs.length := (List.getElem?_eq_some_iff.1 h).1
          refine ⟨vs[off]'(by omega), ?_, hc off av _ h (by simp [show off < vs.size by omega])⟩
          simp [execOp, ho, hev, Instr.field, run_underlying hu, hf, asAgg, part, ho1, ho2, run_isAgg hag, show off < vs.size by omega]
        · cases h
    · cases h

@[go_sem] def aextract (x : AV) (i : Nat) : Option AV := match x with | .tup cs => cs[i]? | _ => none
theorem aextract_ok {s : List AV} {o : Oper} {x : Operand} {f : Nat} (ho : o.op = .extract x f) {av : AV} (h : aextract (ae s x) f = some av) : OpL P o s ⟨av, [], []⟩ :=
  OpL.pure fun m hh w a rel hop => by
    have hx := hop x (by simp [ho, Op.operands])
    unfold aextract at h
    split at h
    · rename_i cs h2
      rw [h2] at hx
      generalize hev : a.eval x = v at hx
      cases hx with
      | tup _ vs hl hc =>
        have hlt : f < cs.length := (List.getElem?_eq_some_iff.1 h).1
        refine ⟨vs[f]'(by omega), ?_, hc f av _ h (by simp [show f < vs.size by omega])⟩
        simp [execOp, ho, hev, Instr.extract, show f < vs.size by omega]
    · cases h

@[go_sem] def afaddr (P : Program) (t : TypeId) (f : Nat) (x : AV) : Option AV :=
  match fieldT P t f with
  | some (off, _, n) => if n = 0 then none else match x with
    | .ptr b i j => some (.ptr b i (j + off))
    | .lptr r row j => some (.lptr r row (j + off))
    | _ => none
  | none => none
theorem afaddr_ok {s : List AV} {o : Oper} {t : TypeId} {x : Operand} {f : Nat} (ho : o.op = .fieldAddr t x f) {look : Nat → Own} {av : AV} {rd : List (Nat × Own)} (h : afaddr P t f (ae s x) = some av) (hl : alive look (ae s x) = some rd) : OpL P o s ⟨av, rd, []⟩ :=
  OpL.pureR fun m hh w a hrd rel hop => by
    have hx := hop x (by simp [ho, Op.operands])
    unfold afaddr at h
    split at h
    · rename_i off ft n h1
      obtain ⟨fs, fl, hu, hf, ho1, ho2, hn⟩ := fieldT_inv h1
      split at h
      · cases h
      · rename_i hn0
        split at h
        · rename_i b i j e
          rw [e] at hx hl
          cases h
          obtain ⟨k, rfl⟩ := alive_ptr hl
          have hb := hrd (b, .live k) (by simp)
          obtain ⟨e2, _⟩ := R.ptr_row rel hb hx
          refine ⟨.pointer (some ⟨(m.pl b).1, (m.pl b).2 + i * k.sz + (j + off), none⟩), ?_, .ptr b i (j + off) k hb⟩
          simp [execOp, ho, e2, Instr.fieldAt, run_underlying hu, hf, Instr.sureAddr, fieldPlace, ho1, ho2, run_sizeOf' hn, hn0, add_none, Nat.add_assoc]
        · rename_i r row j e
          rw [e] at hx hl
          cases h
          obtain ⟨kd, hk, rfl⟩ := alive_lptr hl
          have hi : (hh r).imm := by rw [hrd (r, kd) (by simp)]; exact hk
          generalize hev : a.eval x = v at hx
          cases hx with
          | lptr _ _ _ hr g off0 hg f0 hf0 hRR =>
            refine ⟨.pointer (some ⟨g, off0 + (j + off), none⟩), ?_, .lptr r row (j + off) hr g off0 hg f0 hf0 hRR⟩
            simp [execOp, ho, hev, Instr.fieldAt, run_underlying hu, hf, Instr.sureAddr, fieldPlace, ho1, ho2, run_sizeOf' hn, hn0, add_none, Nat.add_assoc]
          | lptrD _ _ _ _ hd _ => rw [hd] at hi; exact hi.elim
        · cases h
    · cases h
end
end Go.Proofs.Ytjmjnndmpeeppaa

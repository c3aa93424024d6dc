/- What operations on slices come to on data: addresses of elements, parts, lengths, append, copy, make. No condition. -/
import Derived.Test.YtjmjnndmpeeppaaAhiBld
namespace Go.Proofs.Ytjmjnndmpeeppaa
open Go.RowKit
set_option linter.unusedVariables false
set_option linter.unusedSimpArgs false

section
variable {P : Program}

theorem elemT_inv {t e : TypeId} (h : elemT P t = some e) : P.underlying t = some (.slice e) := by
  simp only [elemT, Option.bind_eq_some_iff] at h
  obtain ⟨d, hd, h⟩ := h
  cases d <;> simp only [reduceCtorEq, Option.some.injEq] at h
  subst h; exact hd
theorem arrT_inv {t e : TypeId} {n : Nat} (h : arrT P t = some (n, e)) : P.underlying t = some (.array n e) := by
  simp only [arrT, Option.bind_eq_some_iff] at h
  obtain ⟨d, hd, h⟩ := h
  cases d <;> simp only [reduceCtorEq, Option.some.injEq, Prod.mk.injEq] at h
  obtain ⟨rfl, rfl⟩ := h; exact hd

/-- what a live slice of the call's own is -/
theorem R.sl_inv {m : Nm} {h : Hp} {w : World} {b i n : Nat} {v : Value} {k : Blk} (rel : Rel m h w) (hb : h b = .live k) (hR : R m h w (.sl b i n) v) :
    ∃ off cap, v = .slice (some ⟨(m.pl b).1, off, none⟩) n cap ∧ i + n ≤ k.rows.length ∧ n ≤ cap ∧ cap ≤ maxLen ∧ (cap ≠ 0 → off = (m.pl b).2 + i * k.sz) ∧
      ∀ (cur : Array Value) (e : TypeId) (f : Nat × Nat), w.heap[(m.pl b).1]? = some (.cells cur e f) → cap ≠ 0 → (m.pl b).2 + (i + cap) * k.sz ≤ cur.size := by
  cases hR with
  | sl _ _ _ k' hb' off cap hn hc hm ho hz =>
    rw [hb] at hb'; cases hb'
    exact ⟨off, cap, rfl, hn, hc, hm, ho, hz⟩
  | slD _ _ _ _ hd _ => rw [hb] at hd; cases hd
theorem R.list_inv {m : Nm} {h : Hp} {w : World} {r sz : Nat} {rows : List (List AV)} {v : Value} (hi : (h r).imm) (hR : R m h w (.list r sz rows) v) :
    (rows = [] ∧ v = .slice none 0 0) ∨ (rows = [] ∧ ∃ a cap, v = .slice (some a) 0 cap ∧ cap ≤ maxLen) ∨ ∃ g off cap, v = .slice (some ⟨g, off, none⟩) rows.length cap ∧ m.set r g ∧ rows.length ≤ cap ∧ cap ≤ maxLen ∧ (∀ row, row ∈ rows → row.length = sz) ∧
      ∃ f : Nat → Nat → Value, (∀ (i j : Nat) (row : List AV) (c : AV), rows[i]? = some row → row[j]? = some c → w.cell? ⟨g, off + i * sz + j, none⟩ = some (f i j)) ∧ ∀ (i j : Nat) (row : List AV) (c : AV), rows[i]? = some row → row[j]? = some c → R m h w c (f i j) := by
  cases hR with
  | nil => exact .inl ⟨rfl, rfl⟩
  | emp _ _ cap a hr hm => exact .inr (.inl ⟨rfl, a, cap, rfl, hm⟩)
  | list _ _ _ hr g off cap hg hc hm hw f hf hRR => exact .inr (.inr ⟨g, off, cap, rfl, hg, hc, hm, hw, f, hf, hRR⟩)
  | listD _ _ _ _ hd _ => rw [hd] at hi; exact hi.elim

@[go_sem] def alen (x : AV) : Option Nat :=
  match x with
  | .sl _ _ n => some n
  | .list _ _ rows => some rows.length
  | .glist _ _ rows => some rows.length
  | .val (.slice none 0 0) => some 0
  | _ => none

theorem len_of {m : Nm} {h : Hp} {w : World} {look : Nat → Own} {x : AV} {n : Nat} {v : Value} {rd : List (Nat × Own)} (rel : Rel m h w) (hx : alen x = some n) (hl : alive look x = some rd) (hrd : ∀ p ∈ rd, h p.1 = p.2) (hR : R m h w x v) :
    ∃ a cap, v = .slice a n cap := by
  unfold alen at hx
  split at hx
  · cases hx
    obtain ⟨k, rfl⟩ := alive_sl hl
    obtain ⟨off, cap, e, _⟩ := R.sl_inv rel (hrd (_, .live k) (by simp)) hR
    exact ⟨_, _, e⟩
  · cases hx
    obtain ⟨kd, hk, rfl⟩ := alive_list hl
    rcases R.list_inv (by rw [hrd (_, kd) (by simp)]; exact hk) hR with ⟨h1, h2⟩ | ⟨h1, a, cap, h2, _⟩ | ⟨g, off, cap, e, _⟩
    · rw [h1]; exact ⟨_, _, h2⟩
    · rw [h1]; exact ⟨_, _, h2⟩
    · exact ⟨_, _, e⟩
  · cases hx
    obtain ⟨kd, hk, rfl⟩ := alive_glist hl
    rcases R.list_inv (by rw [hrd (_, kd) (by simp)]; exact hk) hR.g2l with ⟨h1, h2⟩ | ⟨h1, a, cap, h2, _⟩ | ⟨g, off, cap, e, _⟩
    · rw [h1]; exact ⟨_, _, h2⟩
    · rw [h1]; exact ⟨_, _, h2⟩
    · exact ⟨_, _, e⟩
  · cases hx
    exact ⟨_, _, hR.val_inv⟩
  · cases hx

theorem alen_ok {s : List AV} {o : Oper} {t : TypeId} {x : Operand} (ho : o.op = .call { callee := .builtin .len, args := #[x], argTypes := #[t] }) {e : TypeId} (ht : elemT P t = some e) {look : Nat → Own} {n : Nat} {rd : List (Nat × Own)}
    (h : alen (ae s x) = some n) (hl : alive look (ae s x) = some rd) : OpL P o s ⟨.val (.int .i64 n), rd, []⟩ :=
  OpL.pureR fun m hh w a hrd rel hop => by
    obtain ⟨ad, cap, e⟩ := len_of rel h hl hrd (hop x (by simp [ho, Op.operands, Call.operands]))
    exact ⟨_, by simp [execOp, ho, resolve, invoke, builtin, Builtin.len_, e, run_underlying (elemT_inv ht), goInt], .val _⟩

/-- the address of an element -/
@[go_sem] def aindex (P : Program) (t : TypeId) (x : AV) (ix : Int) (look : Nat → Own) : Option AV :=
  match elemT P t with
  | some e => match sizeT P e with
    | some n => match x with
      | .sl b i len => match look b with
        | .live k => if k.sz = n ∧ 0 ≤ ix ∧ ix < len then some (.ptr b (i + ix.toNat) 0) else none
        | _ => none
      | .list r sz rows => if sz = n ∧ 0 ≤ ix then (rows[ix.toNat]?).map fun row => .lptr r row 0 else none
      | .glist r sz rows => if sz = n ∧ 0 ≤ ix then (rows[ix.toNat]?).map fun row => .lptr r row 0 else none
      | _ => none
    | none => none
  | none => match arrT P t with
    | some (len, e) => match sizeT P e with
      | some n => if 0 ≤ ix ∧ ix < len then match x with
        | .ptr b i j => some (.ptr b i (j + ix.toNat * n))
        | .lptr r row j => some (.lptr r row (j + ix.toNat * n))
        | _ => none
        else none
      | none => none
    | none => none

theorem aindex_ok {s : List AV} {o : Oper} {t : TypeId} {x y : Operand} (ho : o.op = .indexAddr t x y) {k : IntKind} {ix : Int} (hy : ae s y = .val (.int k ix)) {look : Nat → Own} {av : AV} {rd : List (Nat × Own)}
    (h : aindex P t (ae s x) ix look = some av) (hl : alive look (ae s x) = some rd) : OpL P o s ⟨av, rd, []⟩ := by
  -- what 'alive' looked at is what 'aindex' looked at
  have hsl : ∀ b i len kk, ae s x = .sl b i len → look b = .live kk → rd = [(b, .live kk)] := fun b i len kk e1 e2 => by
    rw [e1] at hl; simp only [alive, e2, Option.some.injEq] at hl; exact hl.symm
  refine OpL.pureR fun m hh w a hrd rel hop => ?_
  have hx := hop x (by simp [ho, Op.operands])
  have hyy := hop y (by simp [ho, Op.operands])
  rw [hy] at hyy
  have ey := hyy.val_inv
  unfold aindex at h
  split at h
  · rename_i e he
    have hu := elemT_inv he
    split at h
    · rename_i n hn
      split at h
      · rename_i b i len hxe
        split at h
        · rename_i kk hkk
          split at h
          · rename_i hcond
            obtain ⟨c1, c2, c3⟩ := hcond
            cases h
            rw [hxe] at hx
            have hb : hh b = .live kk := hrd (b, .live kk) (by rw [hsl b i len kk hxe hkk]; simp)
            obtain ⟨off, cap, e1, h1, h2, _, h3, _⟩ := R.sl_inv rel hb hx
            have hcap : cap ≠ 0 := by omega
            refine ⟨.pointer (some ⟨(m.pl b).1, (m.pl b).2 + (i + ix.toNat) * kk.sz + 0, none⟩), ?_, .ptr b _ 0 kk hb⟩
            have := h3 hcap
            subst this
            simp [execOp, ho, ey, e1, Instr.indexAt, asIntOf, run_underlying hu, c2, c3, run_sizeOf' hn, add_none, ← c1, Nat.add_mul, Nat.add_assoc]
          · cases h
        · cases h
      · rename_i r sz rows hxe
        split at h
        · rename_i hcond
          obtain ⟨c1, c2⟩ := hcond
          simp only [Option.map_eq_some_iff] at h
          obtain ⟨row, hrow, rfl⟩ := h
          rw [hxe] at hx hl
          obtain ⟨kd, hk, rfl⟩ := alive_list hl
          have hi : (hh r).imm := by rw [hrd (r, kd) (by simp)]; exact hk
          have hlt : ix.toNat < rows.length := (List.getElem?_eq_some_iff.1 hrow).1
          rcases R.list_inv hi hx with ⟨h1, _⟩ | ⟨h1, _⟩ | ⟨g, off, cap, e1, hg, h2, _, h3, f, hf, hRR⟩
          · rw [h1] at hlt; simp at hlt
          · rw [h1] at hlt; simp at hlt
          · refine ⟨.pointer (some ⟨g, off + ix.toNat * sz + 0, none⟩), ?_, .lptr r row 0 hi g (off + ix.toNat * sz) hg (fun j => f ix.toNat j) (fun j c hc => by rw [hf _ j row c hrow hc]) fun j c hc => hRR _ j row c hrow hc⟩
            simp [execOp, ho, ey, e1, Instr.indexAt, asIntOf, run_underlying hu, c2, show ix < (rows.length : Int) by omega, run_sizeOf' hn, add_none, ← c1]
        · cases h
      · rename_i r sz rows hxe
        split at h
        · rename_i hcond
          obtain ⟨c1, c2⟩ := hcond
          simp only [Option.map_eq_some_iff] at h
          obtain ⟨row, hrow, rfl⟩ := h
          rw [hxe] at hx hl
          obtain ⟨kd, hk, rfl⟩ := alive_glist hl
          have hi : (hh r).imm := by rw [hrd (r, kd) (by simp)]; exact hk
          have hlt : ix.toNat < rows.length := (List.getElem?_eq_some_iff.1 hrow).1
          rcases R.list_inv hi hx.g2l with ⟨h1, _⟩ | ⟨h1, _⟩ | ⟨g, off, cap, e1, hg, h2, _, h3, f, hf, hRR⟩
          · rw [h1] at hlt; simp at hlt
          · rw [h1] at hlt; simp at hlt
          · refine ⟨.pointer (some ⟨g, off + ix.toNat * sz + 0, none⟩), ?_, .lptr r row 0 hi g (off + ix.toNat * sz) hg (fun j => f ix.toNat j) (fun j c hc => by rw [hf _ j row c hrow hc]) fun j c hc => hRR _ j row c hrow hc⟩
            simp [execOp, ho, ey, e1, Instr.indexAt, asIntOf, run_underlying hu, c2, show ix < (rows.length : Int) by omega, run_sizeOf' hn, add_none, ← c1]
        · cases h
      · cases h
    · cases h
  · rename_i hne
    split at h
    · rename_i len e hae
      have hu := arrT_inv hae
      split at h
      · rename_i n hn
        split at h
        · rename_i hcond
          obtain ⟨c2, c3⟩ := hcond
          split at h
          · rename_i b i j hxe
            cases h
            rw [hxe] at hx hl
            obtain ⟨kk, rfl⟩ := alive_ptr hl
            have hb := hrd (b, .live kk) (by simp)
            obtain ⟨e2, _⟩ := R.ptr_row rel hb hx
            refine ⟨.pointer (some ⟨(m.pl b).1, (m.pl b).2 + i * kk.sz + (j + ix.toNat * n), none⟩), ?_, .ptr b i (j + ix.toNat * n) kk hb⟩
            simp [execOp, ho, ey, e2, Instr.indexAt, asIntOf, run_underlying hu, Instr.sureAddr, c2, c3, run_sizeOf' hn, add_none, Nat.add_assoc]
          · rename_i r row j hxe
            cases h
            rw [hxe] at hx hl
            obtain ⟨kd, hk, rfl⟩ := alive_lptr hl
            have hi : (hh r).imm := by rw [hrd (r, kd) (by simp)]; exact hk
            generalize hev : a.eval x = v at hx
            cases hx with
            | lptr _ _ _ hr g off0 hg f0 hf0 hRR =>
              refine ⟨.pointer (some ⟨g, off0 + (j + ix.toNat * n), none⟩), ?_, .lptr r row (j + ix.toNat * n) hr g off0 hg f0 hf0 hRR⟩
              simp [execOp, ho, ey, hev, Instr.indexAt, asIntOf, run_underlying hu, Instr.sureAddr, c2, c3, run_sizeOf' hn, add_none, Nat.add_assoc]
            | lptrD _ _ _ _ hd _ => rw [hd] at hi; exact hi.elim
          · cases h
        · cases h
      · cases h
    · cases h

/-! ### a slice's part -/

@[go_sem] def abnd (s : List AV) : Option Operand → Option (Option Int)
  | none => some none
  | some x => match ae s x with | .val (.int _ n) => some (some n) | _ => none

/-- a part of a slice, from lo to hi, up to mx -/
@[go_sem] def aslice (P : Program) (t : TypeId) (x : AV) (lo hi mx : Option Int) (look : Nat → Own) : Option AV :=
  match elemT P t, alen x with
  | some e, some n =>
    match sizeT P e with
    | some n0 =>
      if 0 ≤ lo.getD 0 ∧ lo.getD 0 ≤ hi.getD n ∧ hi.getD n ≤ mx.getD n ∧ mx.getD n ≤ n ∧ (mx = none ∨ hi ≠ none) then
        match x with
        | .sl b i _ => match look b with
          | .live k => if k.sz = n0 then some (.sl b (i + (lo.getD 0).toNat) (hi.getD n - lo.getD 0).toNat) else none
          | _ => none
        | .list r sz rows => if sz = n0 then some (.list r sz ((rows.drop (lo.getD 0).toNat).take (hi.getD n - lo.getD 0).toNat)) else none
        | .glist r sz rows => if sz = n0 then some (.list r sz ((rows.drop (lo.getD 0).toNat).take (hi.getD n - lo.getD 0).toNat)) else none
        | .val (.slice none 0 0) => some (.val (.slice none 0 0))
        | _ => none
      else none
    | none => none
  | _, _ => none

theorem run_slice_gen (w : World) (t : TypeId) (e : TypeId) (n : Nat) (hu : P.underlying t = some (.slice e)) (hn : sizeT P e = some n) (ad : Option Addr) (len cap : Nat) (hc : len ≤ cap)
    (lo hi mx : Option Value) (l h m : Int) (hl : ∀ v, lo = some v → ∃ k, v = .int k l) (hl0 : lo = none → l = 0) (hh : ∀ v, hi = some v → ∃ k, v = .int k h) (hh0 : hi = none → h = len)
    (hm : ∀ v, mx = some v → ∃ k, v = .int k m) (hm0 : mx = none → m = cap) (hmh : mx ≠ none → hi ≠ none) (c1 : 0 ≤ l) (c2 : l ≤ h) (c3 : h ≤ m) (c4 : m ≤ cap) :
    (Instr.sliceAt t (.slice ad len cap) lo hi mx).run P w = .ok (.slice (if m.toNat = l.toNat then ad else ad.map (·.add (l.toNat * n))) (h - l).toNat (m - l).toNat) w := by
  have e1 : (h - l).toNat = h.toNat - l.toNat := by omega
  have e2 : (m - l).toNat = m.toNat - l.toNat := by omega
  rw [e1, e2]
  cases mx with
  | none =>
    have := hm0 rfl
    subst this
    cases hi with
    | none =>
      have := hh0 rfl
      subst this
      cases lo with
      | none =>
        have := hl0 rfl
        subst this
        simp [Instr.sliceAt, run_underlying hu, Instr.slice, Instr.sliceBounds, run_sizeOf' hn]
      | some vl =>
        obtain ⟨kl, rfl⟩ := hl vl rfl
        simp [Instr.sliceAt, run_underlying hu, Instr.slice, Instr.sliceBounds, run_sizeOf' hn, run_sliceBound w kl l len _ c1 c2]
    | some vh =>
      obtain ⟨kh, rfl⟩ := hh vh rfl
      have b1 := fun code => run_sliceBound (P := P) w kh h cap code (by omega) (by omega)
      cases lo with
      | none =>
        have := hl0 rfl
        subst this
        simp [Instr.sliceAt, run_underlying hu, Instr.slice, Instr.sliceBounds, run_sizeOf' hn, b1]
      | some vl =>
        obtain ⟨kl, rfl⟩ := hl vl rfl
        have b2 := fun code => run_sliceBound (P := P) w kl l h.toNat code c1 (by omega)
        simp [Instr.sliceAt, run_underlying hu, Instr.slice, Instr.sliceBounds, run_sizeOf' hn, b1, b2]
  | some vm =>
    obtain ⟨km, rfl⟩ := hm vm rfl
    have b0 := fun code => run_sliceBound (P := P) w km m cap code (by omega) c4
    cases hi with
    | none => exact absurd rfl (hmh (by simp))
    | some vh =>
      obtain ⟨kh, rfl⟩ := hh vh rfl
      have b1 := fun code => run_sliceBound (P := P) w kh h m.toNat code (by omega) (by omega)
      cases lo with
      | none =>
        have := hl0 rfl
        subst this
        simp [Instr.sliceAt, run_underlying hu, Instr.slice, Instr.sliceBounds, run_sizeOf' hn, b0, b1]
      | some vl =>
        obtain ⟨kl, rfl⟩ := hl vl rfl
        have b2 := fun code => run_sliceBound (P := P) w kl l h.toNat code c1 (by omega)
        simp [Instr.sliceAt, run_underlying hu, Instr.slice, Instr.sliceBounds, run_sizeOf' hn, b0, b1, b2]

theorem abnd_inv {m : Nm} {h : Hp} {w : World} {s : List AV} {a : Act} {lo : Option Operand} {l : Option Int} (hb : abnd s lo = some l) (hR : ∀ x, lo = some x → R m h w (ae s x) (a.eval x)) :
    (l = none ↔ lo = none) ∧ ∀ v, lo.map a.eval = some v → ∃ k, v = .int k (l.getD 0) ∧ l = some (l.getD 0) := by
  cases lo with
  | none => simp only [abnd, Option.some.injEq] at hb; subst hb; simp
  | some x =>
    simp only [abnd] at hb
    split at hb
    · rename_i k n e
      cases hb
      have := hR x rfl
      rw [e] at this
      refine ⟨by simp, fun v hv => ?_⟩
      simp at hv
      subst hv
      exact ⟨k, this.val_inv, rfl⟩
    · cases hb

theorem aslice_ok {s : List AV} {o : Oper} {t : TypeId} {x : Operand} {lo hi mx : Option Operand} (ho : o.op = .slice t x lo hi mx) {l h mm : Option Int} (hlo : abnd s lo = some l) (hhi : abnd s hi = some h) (hmx : abnd s mx = some mm)
    {look : Nat → Own} {av : AV} {rd : List (Nat × Own)} (hs : aslice P t (ae s x) l h mm look = some av) (hl : alive look (ae s x) = some rd) : OpL P o s ⟨av, rd, []⟩ := by
  have hsl : ∀ b i len kk, ae s x = .sl b i len → look b = .live kk → rd = [(b, .live kk)] := fun b i len kk e1 e2 => by
    rw [e1] at hl; simp only [alive, e2, Option.some.injEq] at hl; exact hl.symm
  refine OpL.pureR fun m hh w a hrd rel hop => ?_
  have hx := hop x (by simp [ho, Op.operands])
  obtain ⟨bl1, bl2⟩ := abnd_inv (m := m) (h := hh) (w := w) (a := a) hlo fun y hy => hop y (by simp [ho, Op.operands, hy])
  obtain ⟨bh1, bh2⟩ := abnd_inv (m := m) (h := hh) (w := w) (a := a) hhi fun y hy => hop y (by simp [ho, Op.operands, hy])
  obtain ⟨bm1, bm2⟩ := abnd_inv (m := m) (h := hh) (w := w) (a := a) hmx fun y hy => hop y (by simp [ho, Op.operands, hy])
  unfold aslice at hs
  split at hs
  case h_2 => cases hs
  rename_i e n he hn
  split at hs
  case h_2 => cases hs
  rename_i n0 hn0
  split at hs
  case isFalse => cases hs
  rename_i hcond
  obtain ⟨c1, c2, c3, c4, c5⟩ := hcond
  have hu := elemT_inv he
  -- the run, at whatever capacity
  have run : ∀ ad cap, n ≤ cap → a.eval x = .slice ad n cap → (execOp a.eval o).run P w = .ok (.value (.slice (if ((mm.getD cap : Int)).toNat = (l.getD 0).toNat then ad else ad.map (·.add ((l.getD 0).toNat * n0))) (h.getD n - l.getD 0).toNat (mm.getD (cap : Nat) - l.getD 0).toNat)) w := by
    intro ad cap hcap ev
    have f1 : ∀ v, lo.map a.eval = some v → ∃ k, v = .int k (l.getD 0) := fun v hv => by obtain ⟨k, hk, _⟩ := bl2 v hv; exact ⟨k, hk⟩
    have f2 : lo.map a.eval = none → l.getD 0 = 0 := fun hv => by
      have : lo = none := by simpa using hv
      rw [bl1.2 this]; rfl
    have f3 : ∀ v, hi.map a.eval = some v → ∃ k, v = .int k (h.getD n) := fun v hv => by obtain ⟨k, hk, hk2⟩ := bh2 v hv; rw [hk2] at hk ⊢; exact ⟨k, hk⟩
    have f4 : hi.map a.eval = none → h.getD n = (n : Int) := fun hv => by
      have : hi = none := by simpa using hv
      rw [bh1.2 this]; rfl
    have f5 : ∀ v, mx.map a.eval = some v → ∃ k, v = .int k (mm.getD cap) := fun v hv => by obtain ⟨k, hk, hk2⟩ := bm2 v hv; rw [hk2] at hk ⊢; exact ⟨k, hk⟩
    have f6 : mx.map a.eval = none → mm.getD cap = (cap : Int) := fun hv => by
      have : mx = none := by simpa using hv
      rw [bm1.2 this]; rfl
    have f7 : mx.map a.eval ≠ none → hi.map a.eval ≠ none := fun hm hh => by
      have h1 : hi = none := by simpa using hh
      have h2 : mx ≠ none := fun e => hm (by simp [e])
      rcases c5 with c5 | c5
      · exact h2 (bm1.1 c5)
      · exact c5 (bh1.2 h1)
    have f8 : h.getD n ≤ mm.getD (cap : Int) := by
      cases hmm : mm with
      | none => rw [hmm] at c3; simp at c3 ⊢; omega
      | some q => rw [hmm] at c3; simpa using c3
    have f9 : mm.getD (cap : Int) ≤ cap := by
      cases hmm : mm with
      | none => simp
      | some q => rw [hmm] at c4; simp at c4 ⊢; omega
    have := run_slice_gen (P := P) w t e n0 hu hn0 ad n cap hcap (lo.map a.eval) (hi.map a.eval) (mx.map a.eval) (l.getD 0) (h.getD n) (mm.getD cap) f1 f2 f3 f4 f5 f6 f7 c1 c2 f8 f9
    simp [execOp, ho, ev, this]
  have mge : ∀ cap : Nat, n ≤ cap → mm.getD n ≤ mm.getD (cap : Int) ∧ mm.getD (cap : Int) ≤ cap := fun cap hc => by
    cases hmm : mm with
    | none => simp; omega
    | some q => rw [hmm] at c4; simp at c4 ⊢; omega
  split at hs
  · rename_i b i n' hxe
    split at hs
    case h_2 => cases hs
    rename_i kk hkk
    split at hs
    case isFalse => cases hs
    rename_i hsz
    cases hs
    rw [hxe] at hx hn
    simp only [alen, Option.some.injEq] at hn
    subst hn
    have hb : hh b = .live kk := hrd (b, .live kk) (by rw [hsl b i _ kk hxe hkk]; simp)
    obtain ⟨off, cap, e1, h1, h2, h3, h4, h5⟩ := R.sl_inv rel hb hx
    have mg := mge cap h2
    refine ⟨_, run _ cap h2 e1, ?_⟩
    have key := R.sl (m := m) (h := hh) (w := w) b (i + (l.getD 0).toNat) (h.getD n' - l.getD 0).toNat kk hb (if ((mm.getD cap : Int)).toNat = (l.getD 0).toNat then off else off + (l.getD 0).toNat * n0) (mm.getD (cap : Nat) - l.getD 0).toNat
      (by omega) (by omega) (by omega) (fun hc => by
        have hcc : cap ≠ 0 := by omega
        rw [if_neg (by omega), h4 hcc, ← hsz, Nat.add_mul, Nat.add_assoc]) (fun cur e f hcur hc => by
        have hcc : cap ≠ 0 := by omega
        have := h5 cur e f hcur hcc
        have hle : i + (l.getD 0).toNat + (mm.getD (cap : Nat) - l.getD 0).toNat ≤ i + cap := by omega
        have := Nat.mul_le_mul_right kk.sz hle
        omega)
    have e2 : (if ((mm.getD cap : Int)).toNat = (l.getD 0).toNat then (some ⟨(m.pl b).1, off, none⟩ : Option Addr) else (some ⟨(m.pl b).1, off, none⟩ : Option Addr).map (·.add ((l.getD 0).toNat * n0))) =
        some ⟨(m.pl b).1, if ((mm.getD cap : Int)).toNat = (l.getD 0).toNat then off else off + (l.getD 0).toNat * n0, none⟩ := by
      split <;> simp [add_none]
    rw [e2]
    exact key
  · rename_i r sz rows hxe
    split at hs
    case isFalse => cases hs
    rename_i hsz
    cases hs
    rw [hxe] at hx hn hl
    simp only [alen, Option.some.injEq] at hn
    obtain ⟨kd, hk, rfl⟩ := alive_list hl
    have hi : (hh r).imm := by rw [hrd (r, kd) (by simp)]; exact hk
    rcases R.list_inv hi hx with ⟨h1, h2⟩ | ⟨h1, a0, cap, h2, h3⟩ | ⟨g, off, cap, e1, hg, h2, h3, h4, f, hf, hRR⟩
    · subst h1
      simp at hn
      subst hn
      refine ⟨_, run _ 0 (by omega) h2, ?_⟩
      have z1 : l.getD 0 = 0 := by simp at c2 c3 c4; omega
      have z2 : h.getD ((0 : Nat) : Int) = 0 := by simp at c2 c3 c4 ⊢; omega
      have z3 : mm.getD ((0 : Nat) : Int) = 0 := by simp at c2 c3 c4 ⊢; omega
      simp only [z1, z2, z3]
      simpa using R.nil (m := m) (h := hh) (w := w) r sz
    · subst h1
      simp at hn
      subst hn
      have mg := mge cap (Nat.zero_le _)
      refine ⟨_, run _ cap (Nat.zero_le _) h2, ?_⟩
      have z1 : l.getD 0 = 0 := by simp at c2 c3 c4; omega
      have z2 : h.getD ((0 : Nat) : Int) = 0 := by simp at c2 c3 c4 ⊢; omega
      have e2 : (if ((mm.getD cap : Int)).toNat = (l.getD 0).toNat then (some a0 : Option Addr) else (some a0 : Option Addr).map (·.add ((l.getD 0).toNat * n0))) =
          some (if ((mm.getD cap : Int)).toNat = (l.getD 0).toNat then a0 else a0.add ((l.getD 0).toNat * n0)) := by
        split <;> rfl
      rw [e2]
      have key := R.emp (m := m) (h := hh) (w := w) r sz (mm.getD (cap : Nat) - l.getD 0).toNat (if ((mm.getD cap : Int)).toNat = (l.getD 0).toNat then a0 else a0.add ((l.getD 0).toNat * n0)) hi (by omega)
      simp only [List.drop_nil, List.take_nil]
      rw [show (h.getD ((0 : Nat) : Int) - l.getD 0).toNat = 0 by omega]
      exact key
    · have hn' : n = rows.length := hn.symm
      subst hn'
      have mg := mge cap h2
      refine ⟨_, run _ cap h2 e1, ?_⟩
      have e2 : (if ((mm.getD cap : Int)).toNat = (l.getD 0).toNat then (some ⟨g, off, none⟩ : Option Addr) else (some ⟨g, off, none⟩ : Option Addr).map (·.add ((l.getD 0).toNat * n0))) =
          some ⟨g, if ((mm.getD cap : Int)).toNat = (l.getD 0).toNat then off else off + (l.getD 0).toNat * n0, none⟩ := by
        split <;> simp [add_none]
      rw [e2]
      have hlen : ((rows.drop (l.getD 0).toNat).take (h.getD rows.length - l.getD 0).toNat).length = (h.getD rows.length - l.getD 0).toNat := by
        rw [List.length_take, List.length_drop]; omega
      have hget : ∀ (i : Nat) (row : List AV), ((rows.drop (l.getD 0).toNat).take (h.getD rows.length - l.getD 0).toNat)[i]? = some row → rows[(l.getD 0).toNat + i]? = some row ∧ i < (h.getD rows.length - l.getD 0).toNat := fun i row hi => by
        rw [List.getElem?_take] at hi
        split at hi
        · rw [List.getElem?_drop] at hi; exact ⟨hi, by assumption⟩
        · cases hi
      have key := R.list (m := m) (h := hh) (w := w) r sz ((rows.drop (l.getD 0).toNat).take (h.getD rows.length - l.getD 0).toNat) hi g (if ((mm.getD cap : Int)).toNat = (l.getD 0).toNat then off else off + (l.getD 0).toNat * n0) (mm.getD (cap : Nat) - l.getD 0).toNat hg
        (by rw [hlen]; omega) (by omega) (fun row hrow => h4 row (List.mem_of_mem_drop (List.mem_of_mem_take hrow))) (fun i j => f ((l.getD 0).toNat + i) j)
        (fun i j row c hi2 hj => by
          obtain ⟨hi3, hlt⟩ := hget i row hi2
          rw [if_neg (by omega), ← hf ((l.getD 0).toNat + i) j row c hi3 hj, ← hsz, Nat.add_mul]
          congr 2; omega)
        (fun i j row c hi2 hj => hRR _ j row c (hget i row hi2).1 hj)
      rw [hlen] at key
      exact key
  · rename_i r sz rows hxe
    split at hs
    case isFalse => cases hs
    rename_i hsz
    cases hs
    rw [hxe] at hx hn hl
    simp only [alen, Option.some.injEq] at hn
    obtain ⟨kd, hk, rfl⟩ := alive_glist hl
    have hi : (hh r).imm := by rw [hrd (r, kd) (by simp)]; exact hk
    rcases R.list_inv hi hx.g2l with ⟨h1, h2⟩ | ⟨h1, a0, cap, h2, h3⟩ | ⟨g, off, cap, e1, hg, h2, h3, h4, f, hf, hRR⟩
    · subst h1
      simp at hn
      subst hn
      refine ⟨_, run _ 0 (by omega) h2, ?_⟩
      have z1 : l.getD 0 = 0 := by simp at c2 c3 c4; omega
      have z2 : h.getD ((0 : Nat) : Int) = 0 := by simp at c2 c3 c4 ⊢; omega
      have z3 : mm.getD ((0 : Nat) : Int) = 0 := by simp at c2 c3 c4 ⊢; omega
      simp only [z1, z2, z3]
      simpa using R.nil (m := m) (h := hh) (w := w) r sz
    · subst h1
      simp at hn
      subst hn
      have mg := mge cap (Nat.zero_le _)
      refine ⟨_, run _ cap (Nat.zero_le _) h2, ?_⟩
      have z1 : l.getD 0 = 0 := by simp at c2 c3 c4; omega
      have z2 : h.getD ((0 : Nat) : Int) = 0 := by simp at c2 c3 c4 ⊢; omega
      have e2 : (if ((mm.getD cap : Int)).toNat = (l.getD 0).toNat then (some a0 : Option Addr) else (some a0 : Option Addr).map (·.add ((l.getD 0).toNat * n0))) =
          some (if ((mm.getD cap : Int)).toNat = (l.getD 0).toNat then a0 else a0.add ((l.getD 0).toNat * n0)) := by
        split <;> rfl
      rw [e2]
      have key := R.emp (m := m) (h := hh) (w := w) r sz (mm.getD (cap : Nat) - l.getD 0).toNat (if ((mm.getD cap : Int)).toNat = (l.getD 0).toNat then a0 else a0.add ((l.getD 0).toNat * n0)) hi (by omega)
      simp only [List.drop_nil, List.take_nil]
      rw [show (h.getD ((0 : Nat) : Int) - l.getD 0).toNat = 0 by omega]
      exact key
    · have hn' : n = rows.length := hn.symm
      subst hn'
      have mg := mge cap h2
      refine ⟨_, run _ cap h2 e1, ?_⟩
      have e2 : (if ((mm.getD cap : Int)).toNat = (l.getD 0).toNat then (some ⟨g, off, none⟩ : Option Addr) else (some ⟨g, off, none⟩ : Option Addr).map (·.add ((l.getD 0).toNat * n0))) =
          some ⟨g, if ((mm.getD cap : Int)).toNat = (l.getD 0).toNat then off else off + (l.getD 0).toNat * n0, none⟩ := by
        split <;> simp [add_none]
      rw [e2]
      have hlen : ((rows.drop (l.getD 0).toNat).take (h.getD rows.length - l.getD 0).toNat).length = (h.getD rows.length - l.getD 0).toNat := by
        rw [List.length_take, List.length_drop]; omega
      have hget : ∀ (i : Nat) (row : List AV), ((rows.drop (l.getD 0).toNat).take (h.getD rows.length - l.getD 0).toNat)[i]? = some row → rows[(l.getD 0).toNat + i]? = some row ∧ i < (h.getD rows.length - l.getD 0).toNat := fun i row hi => by
        rw [List.getElem?_take] at hi
        split at hi
        · rw [List.getElem?_drop] at hi; exact ⟨hi, by assumption⟩
        · cases hi
      have key := R.list (m := m) (h := hh) (w := w) r sz ((rows.drop (l.getD 0).toNat).take (h.getD rows.length - l.getD 0).toNat) hi g (if ((mm.getD cap : Int)).toNat = (l.getD 0).toNat then off else off + (l.getD 0).toNat * n0) (mm.getD (cap : Nat) - l.getD 0).toNat hg
        (by rw [hlen]; omega) (by omega) (fun row hrow => h4 row (List.mem_of_mem_drop (List.mem_of_mem_take hrow))) (fun i j => f ((l.getD 0).toNat + i) j)
        (fun i j row c hi2 hj => by
          obtain ⟨hi3, hlt⟩ := hget i row hi2
          rw [if_neg (by omega), ← hf ((l.getD 0).toNat + i) j row c hi3 hj, ← hsz, Nat.add_mul]
          congr 2; omega)
        (fun i j row c hi2 hj => hRR _ j row c (hget i row hi2).1 hj)
      rw [hlen] at key
      exact key
  · rename_i hxe
    cases hs
    rw [hxe] at hx hn
    simp only [alen, Option.some.injEq] at hn
    subst hn
    refine ⟨_, run none 0 (by omega) hx.val_inv, ?_⟩
    have z1 : l.getD 0 = 0 := by simp at c2 c3 c4; omega
    have z2 : h.getD ((0 : Nat) : Int) = 0 := by simp at c2 c3 c4 ⊢; omega
    have z3 : mm.getD ((0 : Nat) : Int) = 0 := by simp at c2 c3 c4 ⊢; omega
    simp only [z1, z2, z3]
    simpa using R.val (m := m) (h := hh) (w := w) (.slice none 0 0)
  · cases hs
end
end Go.Proofs.Ytjmjnndmpeeppaa

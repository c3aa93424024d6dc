/- What operations on memory come to on data: loads, stores, new blocks, structs, addresses. No condition. -/
import Derived.Test.YtjmjnndmpeeppaaAhiOp
namespace Go.Proofs.Ytjmjnndmpeeppaa
open Go.RowKit
set_option linter.unusedVariables false
set_option linter.unusedSimpArgs false

section
variable {P : Program}

def isAggT (P : Program) (t : TypeId) : Option Bool := (P.underlying t).map fun | .struct _ => true | .array _ _ => true | _ => false
def sizeT (P : Program) (t : TypeId) : Option Nat := (P.info? t).map (·.size)
def bytesT (P : Program) (t : TypeId) : Option Nat := (P.info? t).map (·.bytes)
def zeroT (P : Program) (t : TypeId) : Option (List Value) := (P.info? t).bind fun i => i.zero.map (·.cells.toList)
def elemT (P : Program) (t : TypeId) : Option TypeId := (P.underlying t).bind fun | .slice e => some e | _ => none
def arrT (P : Program) (t : TypeId) : Option (Nat × TypeId) := (P.underlying t).bind fun | .array n e => some (n, e) | _ => none
def undT (P : Program) (t : TypeId) : Bool := (P.underlying t).isSome
/-- where a field lies, its type, its size -/
def fieldT (P : Program) (t : TypeId) (f : Nat) : Option (Nat × TypeId × Nat) :=
  (P.underlying t).bind fun | .struct fs => (fs[f]?).bind fun x => (sizeT P x.type).map fun n => (x.offset, x.type, n) | _ => none
def fieldsT (P : Program) (t : TypeId) : Option (List (Nat × Nat)) :=
  (P.underlying t).bind fun | .struct fs => fs.toList.mapM fun x => (sizeT P x.type).map fun n => (x.offset, n) | _ => none

theorem run_isAgg {t : TypeId} {b : Bool} (h : isAggT P t = some b) (w : World) : (isAgg t).run P w = .ok b w := by
  simp only [isAggT, Option.map_eq_some_iff] at h
  obtain ⟨d, hd, hb⟩ := h
  simp only [isAgg, Sem.run_bind, run_underlying hd, Result.andThen_ok]
  cases d <;> simp_all
theorem run_sizeOf' {t : TypeId} {n : Nat} (h : sizeT P t = some n) (w : World) : (sizeOf t).run P w = .ok n w := by
  simp only [sizeT, Option.map_eq_some_iff] at h
  obtain ⟨i, hi, hb⟩ := h
  simp [sizeOf, typeInfo, hi, hb]
theorem run_zero {t : TypeId} {z : List Value} (h : zeroT P t = some z) (w : World) : ∃ v, (zeroValue t).run P w = .ok v w ∧ v.cells = z.toArray := by
  simp only [zeroT, Option.bind_eq_some_iff, Option.map_eq_some_iff] at h
  obtain ⟨i, hi, v, hv, hb⟩ := h
  exact ⟨v, by simp [zeroValue, typeInfo, hi, hv], by rw [← hb]⟩

theorem add_none (g o n : Nat) : (⟨g, o, none⟩ : Addr).add n = ⟨g, o + n, none⟩ := by unfold Addr.add; split <;> simp_all

theorem exists_list {p : Nat → Value → Prop} : ∀ (n : Nat), (∀ i, i < n → ∃ v, p i v) → ∃ vs : List Value, vs.length = n ∧ ∀ i v, vs[i]? = some v → p i v := by
  intro n
  induction n with
  | zero => intro _; exact ⟨[], rfl, by simp⟩
  | succ n ih =>
    intro h
    obtain ⟨vs, hl, hv⟩ := ih fun i hi => h i (by omega)
    obtain ⟨v, hp⟩ := h n (by omega)
    refine ⟨vs ++ [v], by simp [hl], fun i u hu => ?_⟩
    by_cases hi : i < n
    · rw [List.getElem?_append_left (by omega)] at hu
      exact hv i u hu
    · rw [List.getElem?_append_right (by omega)] at hu
      have : i = n := by
        have := (List.getElem?_eq_some_iff.1 hu).1
        simp at this; omega
      subst this
      simp [hl] at hu
      subst hu
      exact hp

/-- cells that read as a row's part are loaded -/
theorem load_row {m : Nm} {h : Hp} {w : World} {t : TypeId} {row : List AV} {g o j : Nat} {n : Nat} {b : Bool} (ha : isAggT P t = some b) (hs : sizeT P t = some n)
    (hc : ∀ (j : Nat) (c : AV), row[j]? = some c → ∃ v, w.cell? ⟨g, o + j, none⟩ = some v ∧ R m h w c v) {av : AV}
    (hav : (if b then (if j + n ≤ row.length then some (AV.agg ((row.drop j).take n)) else none) else row[j]?) = some av) :
    ∃ v, (loadVar t ⟨g, o + j, none⟩).run P w = .ok v w ∧ R m h w av v := by
  cases b with
  | true =>
    simp only [if_true] at hav
    split at hav
    · rename_i hle
      cases hav
      obtain ⟨vs, hl, hv⟩ := exists_list (p := fun i v => ∃ c, row[j + i]? = some c ∧ w.cell? ⟨g, o + (j + i), none⟩ = some v ∧ R m h w c v) n (fun i hi => by
        have hlt : j + i < row.length := by omega
        obtain ⟨v, h1, h2⟩ := hc (j + i) row[j + i] (List.getElem?_eq_getElem hlt)
        exact ⟨v, _, List.getElem?_eq_getElem hlt, h1, h2⟩)
      have hld := run_loadCells_list (P := P) w ⟨g, o + j, none⟩ vs (fun i v hiv => by
        obtain ⟨c, _, h2, _⟩ := hv i v hiv
        rw [add_none, Nat.add_assoc]; exact h2)
      rw [hl] at hld
      refine ⟨.agg vs.toArray, by simp [loadVar, run_isAgg ha, run_sizeOf' hs, hld], .agg _ _ (by simp [hl]; omega) fun i c v h1 h2 => ?_⟩
      have h2' : vs[i]? = some v := by simpa using h2
      obtain ⟨c', e1, _, e3⟩ := hv i v h2'
      have h1' : row[j + i]? = some c := by
        rw [List.getElem?_take] at h1
        split at h1
        · simpa using h1
        · cases h1
      rw [e1] at h1'
      cases h1'
      exact e3
    · cases hav
  | false =>
    simp only [Bool.false_eq_true, if_false] at hav
    obtain ⟨v, h1, h2⟩ := hc j av hav
    exact ⟨v, by simp [loadVar, run_isAgg ha, run_load, h1], h2⟩

/-- what a load at an address comes to -/
@[go_sem] def aload (P : Program) (t : TypeId) (x : AV) (look : Nat → Own) : Option Res :=
  match isAggT P t, sizeT P t with
  | some b, some n =>
    match x with
    | .ptr p i j =>
      match look p with
      | .live k =>
        match k.rows[i]? with
        | some row => ((if b then (if j + n ≤ row.length then some (AV.agg ((row.drop j).take n)) else none) else row[j]?)).map fun av => ⟨av, [(p, .live k)], []⟩
        | none => none
      | _ => none
    | .lptr r row j =>
      match look r with
      | .perm => ((if b then (if j + n ≤ row.length then some (AV.agg ((row.drop j).take n)) else none) else row[j]?)).map fun av => ⟨av, [(r, .perm)], []⟩
      | .uniq => ((if b then (if j + n ≤ row.length then some (AV.agg ((row.drop j).take n)) else none) else row[j]?)).map fun av => ⟨av, [(r, .uniq)], []⟩
      | _ => none
    | _ => none
  | _, _ => none

theorem R.ptr_row {m : Nm} {h : Hp} {w : World} {p i j : Nat} {v : Value} {k : Blk} (rel : Rel m h w) (hb : h p = .live k) (hR : R m h w (.ptr p i j) v) :
    v = .pointer (some ⟨(m.pl p).1, (m.pl p).2 + i * k.sz + j, none⟩) ∧ ∀ row, k.rows[i]? = some row → ∀ (j : Nat) (c : AV), row[j]? = some c → ∃ v, w.cell? ⟨(m.pl p).1, (m.pl p).2 + i * k.sz + j, none⟩ = some v ∧ R m h w c v := by
  cases hR with
  | ptr _ _ _ k' hb' =>
    rw [hb] at hb'; cases hb'
    refine ⟨rfl, fun row hrow j' c hc => ?_⟩
    obtain ⟨cur, h1, _, _, h4⟩ := rel.own p k hb
    obtain ⟨v, h5, h6⟩ := h4 i j' row c hrow hc
    exact ⟨v, by simp [World.cell?, h1, h5], h6⟩
  | ptrD _ _ _ _ hd _ => rw [hb] at hd; cases hd

theorem R.lptr_row {m : Nm} {h : Hp} {w : World} {r j : Nat} {row : List AV} {v : Value} (hi : (h r).imm) (hR : R m h w (.lptr r row j) v) :
    ∃ g o, v = .pointer (some ⟨g, o + j, none⟩) ∧ ∀ (j : Nat) (c : AV), row[j]? = some c → ∃ v, w.cell? ⟨g, o + j, none⟩ = some v ∧ R m h w c v := by
  cases hR with
  | lptr _ _ _ hr g off hg f hf hRR => exact ⟨g, off, rfl, fun j c hc => ⟨_, hf j c hc, hRR j c hc⟩⟩
  | lptrD _ _ _ _ hd _ => rw [hd] at hi; exact hi.elim

theorem aload_ok {s : List AV} {o : Oper} {t : TypeId} {x : Operand} (ho : o.op = .load t x) {look : Nat → Own} {r : Res} (hr : aload P t (ae s x) look = some r) : OpL P o s r := by
  unfold aload at hr
  split at hr
  case h_2 => cases hr
  rename_i b n ha hs
  have key : ∀ (m : Nm) (h : Hp) (w : World) (a : Act), (a.eval x = a.eval x) → ∀ (g off j : Nat) (row : List AV) (av : AV), a.eval x = .pointer (some ⟨g, off + j, none⟩) →
      (∀ (j : Nat) (c : AV), row[j]? = some c → ∃ v, w.cell? ⟨g, off + j, none⟩ = some v ∧ R m h w c v) →
      (if b then (if j + n ≤ row.length then some (AV.agg ((row.drop j).take n)) else none) else row[j]?) = some av → ∃ v, (execOp a.eval o).run P w = .ok (.value v) w ∧ R m h w av v := by
    intro m h w a _ g off j row av he hc hav
    obtain ⟨v, h1, h2⟩ := load_row ha hs hc hav
    exact ⟨v, by simp [execOp, ho, he, Instr.loadAt, Instr.sureAddr, h1], h2⟩
  split at hr
  · rename_i p i j hx
    split at hr
    · rename_i k hk
      split at hr
      · rename_i row hrow
        simp only [Option.map_eq_some_iff] at hr
        obtain ⟨av, hav, rfl⟩ := hr
        intro h hrd m w a rel hop
        have hb := hrd (p, .live k) (by simp)
        have hR := hop x (by simp [ho, Op.operands])
        rw [hx] at hR
        obtain ⟨e, hc⟩ := R.ptr_row rel hb hR
        obtain ⟨v, h1, h2⟩ := key m h w a rfl _ _ j row av e (hc row hrow) hav
        exact ⟨_, v, m, w, h1, .inl rfl, rel, Ev.refl m h w, h2⟩
      · cases hr
    · cases hr
  · rename_i r' row j hx
    have fin : ∀ kd : Own, kd.imm → (((if b then (if j + n ≤ row.length then some (AV.agg ((row.drop j).take n)) else none) else row[j]?)).map fun av => (⟨av, [(r', kd)], []⟩ : Res)) = some r → OpL P o s r := by
      intro kd hkd hr
      simp only [Option.map_eq_some_iff] at hr
      obtain ⟨av, hav, rfl⟩ := hr
      intro h hrd m w a rel hop
      have hb := hrd (r', kd) (by simp)
      have hR := hop x (by simp [ho, Op.operands])
      rw [hx] at hR
      obtain ⟨g, off, e, hc⟩ := R.lptr_row (by rw [hb]; exact hkd) hR
      obtain ⟨v, h1, h2⟩ := key m h w a rfl _ _ j row av e hc hav
      exact ⟨_, v, m, w, h1, .inl rfl, rel, Ev.refl m h w, h2⟩
    split at hr
    · exact fin .perm trivial hr
    · exact fin .uniq trivial hr
    · cases hr
  · cases hr

/-! ### a store -/

theorem R.cells {m : Nm} {h : Hp} {w : World} {c : AV} {v : Value} (hR : R m h w c v) (hone : c.cells.all AV.one = true) : c.cells.length = v.cells.size ∧ ∀ (i : Nat) (x : AV) (u : Value), c.cells[i]? = some x → v.cells[i]? = some u → R m h w x u := by
  cases c with
  | agg cs =>
    cases hR with
    | agg _ vs hl hc => exact ⟨hl, hc⟩
  | _ =>
    have h1 := hR.one (by simpa [AV.cells] using hone)
    have hv : v.cells = #[v] := by cases v <;> first | rfl | (simp [Value.oneCell'] at h1; done)
    refine ⟨by simp [AV.cells, hv], fun i x u hx hu => ?_⟩
    rw [hv] at hu
    simp only [AV.cells] at hx
    cases i with
    | zero => simp at hx hu; subst hx hu; exact hR
    | succ i => simp at hx

@[go_sem] def astore (P : Program) (t : TypeId) (x c : AV) (look : Nat → Own) : Option Res :=
  match sizeT P t, x with
  | some n, .ptr p i j =>
    match look p with
    | .live k =>
      match k.rows[i]? with
      | some row =>
        if c.cells.length = n ∧ c.cells.all AV.one = true ∧ j + n ≤ row.length then
          some ⟨.val undef, [(p, .live k)], [(p, .live { k with rows := k.rows.set i (row.take j ++ c.cells ++ row.drop (j + n)) })]⟩
        else none
      | none => none
    | _ => none
  | _, _ => none

theorem getElem?_splice {α : Type} (row cs : List α) (j n i : Nat) (hl : cs.length = n) (hj : j + n ≤ row.length) :
    (row.take j ++ cs ++ row.drop (j + n))[i]? = if j ≤ i ∧ i < j + n then cs[i - j]? else row[i]? := by
  subst hl
  have hjl : min j row.length = j := by omega
  by_cases h1 : i < j
  · rw [if_neg (by omega), List.append_assoc, List.getElem?_append_left (by simp; omega), List.getElem?_take, if_pos h1]
  · by_cases h2 : i < j + cs.length
    · rw [if_pos (by omega), List.append_assoc, List.getElem?_append_right (by simp; omega), List.length_take, hjl, List.getElem?_append_left (by omega)]
    · rw [if_neg (by omega), List.append_assoc, List.getElem?_append_right (by simp; omega), List.length_take, hjl, List.getElem?_append_right (by omega), List.getElem?_drop]
      congr 1; omega

theorem setRow_heap_same (w : World) (g : Nat) (cs cur : Array Value) (t : TypeId) (hg : w.heap[g]? = some (.cells cur t (0, 0))) : (w.setRow g cs).heap[g]? = some (.cells cs t (0, 0)) := setRow_heap w g cur cs t (0, 0) hg

theorem astore_ok {s : List AV} {o : Oper} {t : TypeId} {x y : Operand} (ho : o.op = .store t x y) {look : Nat → Own} {r : Res} (hr : astore P t (ae s x) (ae s y) look = some r) : OpL P o s r := by
  unfold astore at hr
  split at hr
  case h_2 => cases hr
  rename_i n p i j hs hx
  split at hr
  case h_2 => cases hr
  rename_i k hk
  split at hr
  case h_2 => cases hr
  rename_i row hrow
  split at hr
  case isFalse => cases hr
  rename_i hcond
  obtain ⟨hlen, hall, hfit⟩ := hcond
  cases hr
  intro h hrd m w a rel hop
  have hb : h p = .live k := hrd (p, .live k) (by simp)
  have hRx := hop x (by simp [ho, Op.operands])
  have hRy := hop y (by simp [ho, Op.operands])
  rw [hx] at hRx
  generalize ae s y = c at *
  obtain ⟨e, -⟩ := R.ptr_row rel hb hRx
  obtain ⟨cl, cR⟩ := hRy.cells hall
  obtain ⟨cur, hcur, hsz, hrows, hcells⟩ := rel.own p k hb
  have hrl : row.length = k.sz := hrows row (List.mem_of_getElem? hrow)
  have hil : i < k.rows.length := (List.getElem?_eq_some_iff.1 hrow).1
  have hik : i * k.sz + k.sz ≤ k.rows.length * k.sz := by
    have := Nat.mul_le_mul_right k.sz (show i + 1 ≤ k.rows.length from hil)
    rw [Nat.add_mul, Nat.one_mul] at this; exact this
  have h1v : ∀ u ∈ (a.eval y).cells.toList, u.oneCell' = true := fun u hu => by
    obtain ⟨q, hq⟩ := List.getElem?_of_mem hu
    have hq' : (a.eval y).cells[q]? = some u := by simpa using hq
    have hql : q < c.cells.length := by
      have := (Array.getElem?_eq_some_iff.1 hq').1
      omega
    have h3 := cR q c.cells[q] u (List.getElem?_eq_getElem hql) hq'
    refine h3.one ?_
    exact List.all_eq_true.1 hall _ (List.getElem_mem hql)
  have hst := run_storeCells_at P (m.pl p).1 ((m.pl p).2 + i * k.sz + j) k.elem (a.eval y).cells.toList 0 cur w hcur (by simp [← cl, hlen]; omega) h1v
  simp only [Nat.add_zero, Array.length_toList] at hst
  have hvs : (a.eval y).cells.size = n := by rw [← cl]; exact hlen
  rw [hvs] at hst
  have hrun : (execOp a.eval o).run P w = .ok .skip (w.setRow (m.pl p).1 (cur.toList.take ((m.pl p).2 + i * k.sz + j) ++ (a.eval y).cells.toList ++ cur.toList.drop ((m.pl p).2 + i * k.sz + j + n)).toArray) := by
    simp [execOp, ho, e, Instr.storeAt, Instr.sureAddr, storeVar, run_sizeOf' hs, hvs, hst]
  have hcs : (cur.toList.take ((m.pl p).2 + i * k.sz + j) ++ (a.eval y).cells.toList ++ cur.toList.drop ((m.pl p).2 + i * k.sz + j + n)).toArray.size = cur.size := by
    simp [hvs]; omega
  have W := Rel.write (w' := w.setRow (m.pl p).1 (cur.toList.take ((m.pl p).2 + i * k.sz + j) ++ (a.eval y).cells.toList ++ cur.toList.drop ((m.pl p).2 + i * k.sz + j + n)).toArray) rel hb cur _ hcur
    (k.rows.set i (row.take j ++ c.cells ++ row.drop (j + n))) (setRow_heap_same w _ _ cur _ hcur) hcs (by simp) (fun g hg => setRow_other w _ g _ hg) rfl rfl rfl (by simp) (by simpa using hsz)
    (fun row' hm => by
      rcases List.mem_or_eq_of_mem_set hm with h | h
      · exact hrows row' h
      · rw [h]; simp [hlen]; omega)
    (fun i' j' row' c' h1 h2 => by
      by_cases hi : i' = i
      · subst hi
        rw [List.getElem?_set_self hil] at h1
        cases h1
        rw [getElem?_splice row c.cells j n j' hlen hfit] at h2
        have hsp := getElem?_splice cur.toList (a.eval y).cells.toList ((m.pl p).2 + i' * k.sz + j) n ((m.pl p).2 + i' * k.sz + j') (by simpa using hvs) (by simp; omega)
        simp only [List.getElem?_toArray]
        rw [hsp]
        split at h2
        · rename_i hjj
          rw [if_pos (by omega), show (m.pl p).2 + i' * k.sz + j' - ((m.pl p).2 + i' * k.sz + j) = j' - j by omega]
          have hq : j' - j < (a.eval y).cells.size := by omega
          refine ⟨(a.eval y).cells[j' - j], by simp [hq], ?_⟩
          exact cR (j' - j) c' _ h2 (by simp [hq])
        · rename_i hjj
          rw [if_neg (by omega)]
          simpa using hcells i' j' row c' hrow h2
      · rw [List.getElem?_set_ne (Ne.symm hi)] at h1
        obtain ⟨v, h3, h4⟩ := hcells i' j' row' c' h1 h2
        refine ⟨v, ?_, h4⟩
        have hrl' : row'.length = k.sz := hrows row' (List.mem_of_getElem? h1)
        have hj' : j' < k.sz := by rw [← hrl']; exact (List.getElem?_eq_some_iff.1 h2).1
        have hsp := getElem?_splice cur.toList (a.eval y).cells.toList ((m.pl p).2 + i * k.sz + j) n ((m.pl p).2 + i' * k.sz + j') (by simpa using hvs) (by simp; omega)
        simp only [List.getElem?_toArray]
        rw [hsp, if_neg ?_]
        · simpa using h3
        · rcases Nat.lt_or_gt_of_ne hi with hlt | hlt
          · have := Nat.mul_le_mul_right k.sz (show i' + 1 ≤ i from hlt)
            rw [Nat.add_mul, Nat.one_mul] at this
            omega
          · have := Nat.mul_le_mul_right k.sz (show i + 1 ≤ i' from hlt)
            rw [Nat.add_mul, Nat.one_mul] at this
            omega)
  refine ⟨_, undef, m, _, hrun, .inr ⟨rfl, rfl⟩, ?_, ?_, .val _⟩
  · exact W.1
  · exact W.2
end
end Go.Proofs.Ytjmjnndmpeeppaa

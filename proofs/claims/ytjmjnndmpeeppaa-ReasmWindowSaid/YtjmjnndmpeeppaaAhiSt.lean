/- Operations whose outcome hangs on what is not known in numbers: what they come to, given the facts. No condition. -/
import Derived.Test.YtjmjnndmpeeppaaAhiLaw
namespace Go.Proofs.Ytjmjnndmpeeppaa
open Go.RowKit
set_option linter.unusedVariables false
set_option linter.unusedSimpArgs false

section
variable {P : Program} {o : Oper} {sl : List AV} {h : List Own} {t e : TypeId} {x y : Operand} {rd : List (Nat × Own)}

/-- an element's place, of a list -/
theorem idxL {r sz : Nat} {rows : List (List AV)} {row : List AV} {k : IntKind} {n : Int} (ho : o.op = .indexAddr t x y) (hx : ae sl x = .list r sz rows) (hy : ae sl y = .val (.int k n)) (he : elemT P t = some e) (hs : sizeT P e = some sz)
    (hl : alive (ofL h) (.list r sz rows) = some rd) (hn : 0 ≤ n) (hrow : rows[n.toNat]? = some row) : aop P o sl h = some ⟨.lptr r row 0, rd, []⟩ := by
  unfold aop
  rw [ho]
  simp only [hx, hy]
  unfold aindex
  simp only [he, hs, hn, hrow, hl, and_self, if_true, Option.map_some, Option.bind_some]
/-- .. of one's own -/
theorem idxS {b i len sz : Nat} {bk : Blk} {k : IntKind} {n : Int} (ho : o.op = .indexAddr t x y) (hx : ae sl x = .sl b i len) (hy : ae sl y = .val (.int k n)) (he : elemT P t = some e) (hs : sizeT P e = some sz)
    (hb : ofL h b = .live bk) (hz : bk.sz = sz) (hl : alive (ofL h) (.sl b i len) = some rd) (hn : 0 ≤ n ∧ n < len) : aop P o sl h = some ⟨.ptr b (i + n.toNat) 0, rd, []⟩ := by
  unfold aop
  rw [ho]
  simp only [hx, hy]
  unfold aindex
  simp only [he, hs, hb, hz, hn.1, hn.2, hl, and_self, if_true, Option.map_some, Option.bind_some]
/-- a load of one's own -/
theorem ldR {b i j sz : Nat} {bk : Blk} {row : List AV} {ag : Bool} {av : AV} (ho : o.op = .load t x) (hx : ae sl x = .ptr b i j) (ha : isAggT P t = some ag) (hs : sizeT P t = some sz) (hb : ofL h b = .live bk) (hrow : bk.rows[i]? = some row)
    (hv : (if ag then (if j + sz ≤ row.length then some (AV.agg ((row.drop j).take sz)) else none) else row[j]?) = some av) : aop P o sl h = some ⟨av, [(b, .live bk)], []⟩ := by
  unfold aop
  rw [ho]
  simp only [hx]
  unfold aload
  simp only [ha, hs, hb, hrow, hv, Option.map_some]
/-- a store into one's own -/
theorem stR {b i j sz : Nat} {bk : Blk} {row : List AV} (ho : o.op = .store t x y) (hx : ae sl x = .ptr b i j) (hs : sizeT P t = some sz) (hb : ofL h b = .live bk) (hrow : bk.rows[i]? = some row)
    (hc : (ae sl y).cells.length = sz) (h1 : (ae sl y).cells.all AV.one = true) (hj : j + sz ≤ row.length) :
    aop P o sl h = some ⟨.val undef, [(b, .live bk)], [(b, .live { bk with rows := bk.rows.set i (row.take j ++ (ae sl y).cells ++ row.drop (j + sz)) })]⟩ := by
  unfold aop
  rw [ho]
  simp only
  rw [hx]
  unfold astore
  simp only [hs, hb, hrow, hc, h1, hj, and_self, if_true]
/-- a new block of so many -/
theorem mkS {k k' : IntKind} {n : Int} {n0 nb : Nat} {z : List Value} (ho : o.op = .makeSlice t x y) (hx : ae sl x = .val (.int k n)) (hy : ae sl y = .val (.int k' n)) (he : elemT P t = some e) (hs : sizeT P e = some n0) (hb : bytesT P e = some nb) (hz : zeroT P e = some z)
    (h0 : 0 < n0 ∧ z.length = n0) (hn : 0 ≤ n ∧ (nb : Int) * n ≤ 281474976710656 ∧ n ≤ 9223372036854775807) : aop P o sl h = some ⟨.sl h.length 0 n.toNat, [(h.length, .unused)], [(h.length, .live ⟨n0, e, List.replicate n.toNat (z.map .val)⟩)]⟩ := by
  unfold aop
  rw [ho]
  simp only [hx, hy, if_true]
  unfold amake
  simp only [he, hs, hb, hz, h0.1, h0.2, hn.1, hn.2.1, hn.2.2, and_self, if_true]
/-- a part of a list -/
theorem slL {r sz : Nat} {rows : List (List AV)} {lo hi mx : Option Operand} {l hh mm : Option Int} (ho : o.op = .slice t x lo hi mx) (hx : ae sl x = .list r sz rows) (hlo : abnd sl lo = some l) (hhi : abnd sl hi = some hh) (hmx : abnd sl mx = some mm) (he : elemT P t = some e) (hs : sizeT P e = some sz)
    (hl : alive (ofL h) (.list r sz rows) = some rd) (hc : 0 ≤ l.getD 0 ∧ l.getD 0 ≤ hh.getD rows.length ∧ hh.getD rows.length ≤ mm.getD rows.length ∧ mm.getD rows.length ≤ rows.length ∧ (mm = none ∨ hh ≠ none)) :
    aop P o sl h = some ⟨.list r sz ((rows.drop (l.getD 0).toNat).take (hh.getD rows.length - l.getD 0).toNat), rd, []⟩ := by
  unfold aop
  rw [ho]
  simp only [hx, hlo, hhi, hmx, Option.bind_some]
  unfold aslice
  simp only [he, hs, alen]
  rw [if_pos hc]
  simp only [hl, if_true, Option.bind_some, Option.map_some]
/-- a part of a list that grows -/
theorem slG {r sz : Nat} {rows : List (List AV)} {lo hi mx : Option Operand} {l hh mm : Option Int} (ho : o.op = .slice t x lo hi mx) (hx : ae sl x = .glist r sz rows) (hlo : abnd sl lo = some l) (hhi : abnd sl hi = some hh) (hmx : abnd sl mx = some mm) (he : elemT P t = some e) (hs : sizeT P e = some sz)
    (hl : alive (ofL h) (.glist r sz rows) = some rd) (hc : 0 ≤ l.getD 0 ∧ l.getD 0 ≤ hh.getD rows.length ∧ hh.getD rows.length ≤ mm.getD rows.length ∧ mm.getD rows.length ≤ rows.length ∧ (mm = none ∨ hh ≠ none)) :
    aop P o sl h = some ⟨.list r sz ((rows.drop (l.getD 0).toNat).take (hh.getD rows.length - l.getD 0).toNat), rd, []⟩ := by
  unfold aop
  rw [ho]
  simp only [hx, hlo, hhi, hmx, Option.bind_some]
  unfold aslice
  simp only [he, hs, alen]
  rw [if_pos hc]
  simp only [hl, if_true, Option.bind_some, Option.map_some]
/-- a part of one's own -/
theorem slS {b i n sz : Nat} {bk : Blk} {lo hi mx : Option Operand} {l hh mm : Option Int} (ho : o.op = .slice t x lo hi mx) (hx : ae sl x = .sl b i n) (hlo : abnd sl lo = some l) (hhi : abnd sl hi = some hh) (hmx : abnd sl mx = some mm) (he : elemT P t = some e) (hs : sizeT P e = some sz)
    (hb : ofL h b = .live bk) (hz : bk.sz = sz) (hl : alive (ofL h) (.sl b i n) = some rd) (hc : 0 ≤ l.getD 0 ∧ l.getD 0 ≤ hh.getD n ∧ hh.getD n ≤ mm.getD n ∧ mm.getD n ≤ n ∧ (mm = none ∨ hh ≠ none)) :
    aop P o sl h = some ⟨.sl b (i + (l.getD 0).toNat) (hh.getD n - l.getD 0).toNat, rd, []⟩ := by
  unfold aop
  rw [ho]
  simp only [hx, hlo, hhi, hmx, Option.bind_some]
  unfold aslice
  simp only [he, hs, alen]
  rw [if_pos hc]
  simp only [hb, hz, hl, if_true, Option.bind_some, Option.map_some]
/-- an element's place, of a list that grows -/
theorem idxG {r sz : Nat} {rows : List (List AV)} {row : List AV} {k : IntKind} {n : Int} (ho : o.op = .indexAddr t x y) (hx : ae sl x = .glist r sz rows) (hy : ae sl y = .val (.int k n)) (he : elemT P t = some e) (hs : sizeT P e = some sz)
    (hl : alive (ofL h) (.glist r sz rows) = some rd) (hn : 0 ≤ n) (hrow : rows[n.toNat]? = some row) : aop P o sl h = some ⟨.lptr r row 0, rd, []⟩ := by
  unfold aop
  simp only [ho, hx, hy]
  simp [aindex, he, hs, hn, hrow, hl]
/-- something is appended to a list that grows -/
theorem apG {r sz nb : Nat} {rows new : List (List AV)} {Y : AV} {z : List Value} (ho : o.op = .call { callee := .builtin .append, args := #[x, y], argTypes := #[t, t] }) (hx : ae sl x = .glist r sz rows) (hy : ae sl y = Y)
    (hl : alive (ofL h) Y = some rd) (hr : ofL h r = .uniq) (hrows : arows (ofL h) Y = some (sz, new)) (he : elemT P t = some e) (hs : sizeT P e = some sz) (hb : bytesT P e = some nb) (hz : zeroT P e = some z) (h0 : 0 < sz ∧ 0 < nb ∧ z.length = sz)
    (hone : new.all (fun r => r.all AV.one) = true) (hsz : (rows.length + new.length) * nb ≤ 140737488355328) :
    aop P o sl h = some ⟨.glist h.length sz (rows ++ new), (r, .uniq) :: (h.length, .unused) :: rd, [(r, .dead), (h.length, .uniq)]⟩ := by
  unfold aop
  simp only [ho, hx, hy]
  simp [aapp, agrow, he, hs, hb, hz, hrows, hr, hl, h0, hone, hsz]
/-- something is appended to nil -/
theorem apN {sz nb : Nat} {new : List (List AV)} {Y : AV} {z : List Value} (ho : o.op = .call { callee := .builtin .append, args := #[x, y], argTypes := #[t, t] }) (hx : ae sl x = .val (.slice none 0 0)) (hy : ae sl y = Y)
    (hl : alive (ofL h) Y = some rd) (hrows : arows (ofL h) Y = some (sz, new)) (he : elemT P t = some e) (hs : sizeT P e = some sz) (hb : bytesT P e = some nb) (hz : zeroT P e = some z) (h0 : 0 < sz ∧ 0 < nb ∧ z.length = sz)
    (hone : new.all (fun r => r.all AV.one) = true) (hn : new.length ≠ 0) (hsz : new.length * nb ≤ 140737488355328) :
    aop P o sl h = some ⟨.sl h.length 0 new.length, (h.length, .unused) :: rd, [(h.length, .live ⟨sz, e, new⟩)]⟩ := by
  unfold aop
  simp only [ho, hx, hy]
  simp [aapp, aappend, he, hs, hb, hz, hrows, hl, h0, hone, hsz, hn]
/-- something is appended to a slice of one's own -/
theorem apS {b i n sz nb : Nat} {bk : Blk} {new : List (List AV)} {Y : AV} {z : List Value} (ho : o.op = .call { callee := .builtin .append, args := #[x, y], argTypes := #[t, t] }) (hx : ae sl x = .sl b i n) (hy : ae sl y = Y)
    (hl : alive (ofL h) Y = some rd) (hbk : ofL h b = .live bk) (hrows : arows (ofL h) Y = some (sz, new)) (he : elemT P t = some e) (hs : sizeT P e = some sz) (hb : bytesT P e = some nb) (hz : zeroT P e = some z) (h0 : 0 < sz ∧ 0 < nb ∧ z.length = sz)
    (hone : new.all (fun r => r.all AV.one) = true) (h1 : bk.sz = sz ∧ bk.elem = e ∧ i + n = bk.rows.length) (h2 : bk.rows.all (fun r => r.all AV.one) = true) (hsz : (n + new.length) * nb ≤ 140737488355328) :
    aop P o sl h = some ⟨.sl h.length 0 (n + new.length), (b, .live bk) :: (h.length, .unused) :: rd, [(b, .dead), (h.length, .live ⟨sz, e, bk.rows.drop i ++ new⟩)]⟩ := by
  unfold aop
  simp only [ho, hx, hy]
  simp [aapp, aappend, he, hs, hb, hz, hrows, hl, h0, hone, hsz, hbk, h1.1, h1.2.1, h1.2.2, h2]
end
end Go.Proofs.Ytjmjnndmpeeppaa

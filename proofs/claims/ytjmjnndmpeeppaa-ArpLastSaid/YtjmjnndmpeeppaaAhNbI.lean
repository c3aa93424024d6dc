/- slices.Insert of one neighbour: walked once, over the cells of the block. Condition: the place is one of the slice. -/
import Derived.Test.YtjmjnndmpeeppaaAhNbD
import Derived.Lib.AppendZeros
import Derived.Lib.AppendZerosOnto
import Derived.Lib.Overlaps
import Derived.Lib.Walk
import Derived.Laws.Externs
import Derived.Deep.AppendSrc
import Derived.Shelf.RegionOpenPlain
namespace Go.Proofs.Ytjmjnndmpeeppaa
open Go.RowKit
set_option linter.unusedVariables false
set_option linter.unusedSimpArgs false
set_option maxRecDepth 100000
set_option maxHeartbeats 4000000

/-- copy over a row's cells -/
theorem run_copy_at {P : Program} (w : World) (dT sT ty elem : TypeId) (i : TypeInfo) (g o dLen dCap : Nat) (a : Addr) (sLen sCap : Nat) (cur : Array Value) (t : TypeId) (cs : List Value)
    (hu : P.underlying dT = some (.slice elem)) (hi : P.info? elem = some i) (hg : w.heap[g]? = some (.cells cur t (0, 0))) (hn : cs.length = Nat.min sLen dLen * i.size)
    (hsrc : ∀ j v, cs[j]? = some v → w.cell? (a.add j) = some v) (hfit : o + cs.length ≤ cur.size) (h1 : ∀ v ∈ cs, v.oneCell' = true) :
    (Builtin.copy_ #[dT, sT] ty #[.slice (some ⟨g, o, none⟩) dLen dCap, .slice (some a) sLen sCap]).run P w =
      .ok (goInt (Nat.min sLen dLen)) (w.setRow g (cur.toList.take o ++ cs ++ cur.toList.drop (o + cs.length)).toArray) := by
  have hl := run_loadCells_list (P := P) w a cs hsrc
  have hst := run_storeCells_at P g o t cs 0 cur w hg (by simpa using hfit) h1
  simp only [Nat.add_zero] at hst
  simp [Builtin.copy_, run_underlying hu, Builtin.lenOf, Builtin.firstCells, sizeOf, typeInfo, hi, ← hn, hl, hst]
theorem wpList_copy_at {P : Program} (w : World) {ops : Array Oper} {rest : List Oper} {o : Oper} {a : Act} {Q : Exit → Act → World → Prop} (hgd : o.guard = none) (d s : Operand) (t t' : TypeId)
    (ho : o.op = .call { callee := .builtin .copy, args := #[d, s], argTypes := #[t, t'] }) (v u : Value) (hd : a.eval d = v) (hs : a.eval s = u) {v' : Value} {w' : World}
    (hr : (Builtin.copy_ #[t, t'] o.type #[v, u]).run P w = .ok v' w') (h : wpList P ops Q rest (a.put o.dst v') w') : wpList P ops Q (o :: rest) a w :=
  wpList_plain hgd fun _ hK => by
    unfold Oper.wp execOp
    simp only [ho, resolve, invoke, builtin, Sem.run_bind, Sem.run_pure, Result.andThen_ok, List.map_toArray, List.map_cons, List.map_nil, hd, hs, hr]
    exact hK _ _ h
theorem step_copy_at {P : Program} {ops : Array Oper} {o : Oper} {a : Act} {w : World} {K : Act → World → Prop} {Q : Exit → Act → World → Prop} {E : Prop}
    (hg : o.guard = none) (d x : Operand) (dT sT : TypeId) (hop : o.op = Op.call { callee := Callee.builtin Builtin.copy, args := #[d, x], argTypes := #[dT, sT] })
    (v u : Value) (hd : a.eval d = v) (hx : a.eval x = u) {v' : Value} {w' : World} (hr : (Builtin.copy_ #[dT, sT] o.type #[v, u]).run P w = .ok v' w') (hK : K (a.put o.dst v') w') :
    if Region.wanted o (yielded ops a.tmps) = true then Oper.wp P o a w K Q else E := by
  have hw : Region.wanted o (yielded ops a.tmps) = true := by simp [Region.wanted, hg]
  rw [if_pos hw]
  unfold Oper.wp
  simp only [execOp, hop, resolve, invoke, builtin, List.map_toArray, List.map_cons, List.map_nil, hd, hx, Sem.run_bind, Sem.run_pure, Result.andThen_ok, hr]
  exact hK
/-- what the cells of the slice are behind it -/
def insC (vs cur : List Value) (off i n : Nat) : List Value := (cur.drop off).take (i * 3) ++ vs ++ ((cur.drop (off + i * 3)).take ((n - i) * 3))
theorem insC_get (vs cur : List Value) (off i n k : Nat) (hv : vs.length = 3) (hi : i ≤ n) (hf : off + n * 3 ≤ cur.length) :
    (insC vs cur off i n)[k]? = if k < i * 3 then cur[off + k]? else if k < i * 3 + 3 then vs[k - i * 3]? else if k < n * 3 + 3 then cur[off + k - 3]? else none := by
  have l1 : ((cur.drop off).take (i * 3)).length = i * 3 := by simp; omega
  have l2 : ((cur.drop (off + i * 3)).take ((n - i) * 3)).length = (n - i) * 3 := by simp; omega
  unfold insC
  by_cases h1 : k < i * 3
  · rw [if_pos h1, List.append_assoc, List.getElem?_append_left (by omega), List.getElem?_take, if_pos h1, List.getElem?_drop]
  · rw [if_neg h1, List.append_assoc, List.getElem?_append_right (by omega), l1]
    by_cases h2 : k < i * 3 + 3
    · rw [if_pos h2, List.getElem?_append_left (by omega)]
    · rw [if_neg h2, List.getElem?_append_right (by omega), hv, List.getElem?_take]
      by_cases h3 : k < n * 3 + 3
      · rw [if_pos h3, if_pos (by omega), List.getElem?_drop]
        congr 1; omega
      · rw [if_neg h3, if_neg (by omega)]
/-- what comes of it: the block written, or a new one -/
def InsP (w : World) (g off n cap : Nat) (T : TypeId) (cs : List Value) (cur : Array Value) (e : Ending) (w' : World) : Prop :=
  w'.os = w.os ∧ w'.tape = w.tape ∧ w'.output = w.output ∧
  ((∃ cur' : Array Value, e = .returned (.slice (some ⟨g, off, none⟩) (n + 1) cap) ∧ n + 1 ≤ cap ∧ w'.heap[g]? = some (.cells cur' T (0, 0)) ∧ cur'.size = cur.size ∧ w'.heap.size = w.heap.size ∧ (∀ x, x ≠ g → w'.heap[x]? = w.heap[x]?) ∧
      ∀ k, k < (n + 1) * 3 → cur'[off + k]? = cs[k]?) ∨
   (∃ (cur' : Array Value) (cap' : Nat), e = .returned (.slice (some ⟨w.heap.size, 0, none⟩) (n + 1) cap') ∧ n + 1 ≤ cap' ∧ cap' ≤ maxLen ∧ cap' * 3 ≤ cur'.size ∧ w'.heap = w.heap.push (.cells cur' T (0, 0)) ∧
      ∀ k, k < (n + 1) * 3 → cur'[k]? = cs[k]?))
section
variable (g off n cap i gv ov cv : Nat) (cur curv : Array Value) (ev : TypeId) (vs : List Value) (w : World) (hg : w.heap[g]? = some (.cells cur 74 (0, 0))) (hgv : w.heap[gv]? = some (.cells curv ev (0, 0)))
  (hne : gv ≠ g) (hvl : vs.length = 3) (hvs : ∀ (j : Nat) v, vs[j]? = some v → curv[ov + j]? = some v) (hnc : n ≤ cap) (hm : cap ≤ 9223372036854775807) (hfit : off + n * 3 ≤ cur.size) (hroom : cap ≠ 0 → off + cap * 3 ≤ cur.size) (hbig : n ≤ 1000)
  (h1 : ∀ (k : Nat) v, off ≤ k → k < off + n * 3 → cur[k]? = some v → v.oneCell' = true) (h1v : ∀ v ∈ vs, v.oneCell' = true)
include hg hgv hvl hvs hnc hm hfit hroom hbig h1 h1v
/-- at the end, there is room -/
theorem insA (hr : n + 1 ≤ cap) (hi : i = n) : Calls Try.prog 64 #[.slice (some ⟨g, off, none⟩) n cap, .int .i64 n, .slice (some ⟨gv, ov, none⟩) 1 cv] w (InsP w g off n cap 74 (insC vs cur.toList off i n) cur) := by
  obtain ⟨i0, hi0, hz0, hz1, hz2⟩ : ∃ q, (Try.prog).info? 74 = some q ∧ q.zero = some (.agg #[.int .i64 0, .int .i64 0, .int .i64 0]) ∧ q.size = 3 ∧ q.bytes = 24 := by
    have : ((Try.prog).info? 74).map (fun q => (q.zero, q.size, q.bytes)) = some (some (.agg #[.int .i64 0, .int .i64 0, .int .i64 0]), 3, 24) := by kernel_rfl
    simp only [Option.map_eq_some_iff, Prod.mk.injEq] at this
    obtain ⟨q, h1, h2, h3, h4⟩ := this
    exact ⟨q, h1, h2, h3, h4⟩
  have ht := Try.underlying59
  have hrun : ∀ ty, (Builtin.append_ #[59, 59] ty #[.slice (some ⟨g, off, none⟩) n cap, .slice (some ⟨gv, ov, none⟩) 1 cv]).run Try.prog w = _ := fun ty =>
    run_append_at' (P := Try.prog) w _ _ ty _ 74 i0 ht ht hi0 g off n cap cur hg ⟨gv, ov, none⟩ 1 cv vs (by rw [hz1, hvl]) (fun j u hj => by rw [add_none]; simp [World.cell?, hgv, hvs j u hj]) h1v hr (by rw [hz1, hvl]; have := hroom (by omega); omega)
  go_enter Try.func64, Try.ntmps64
  go_wp2_with (at_builtin; refine Lib.wpList_append_run _ rfl _ _ _ _ rfl _ _ rfl rfl _ _ (hrun _) ?_)
  go_ret
  have hfit3 : off + n * 3 + 3 ≤ cur.size := by have := hroom (by omega); omega
  refine ⟨rfl, rfl, rfl, .inl ⟨_, rfl, hr, setRow_heap_same _ _ _ cur _ hg, ?_, by simp, fun x hx => setRow_other _ _ _ _ hx, fun k hk => ?_⟩⟩
  · simp [hz1, hvl]; omega
  · rw [List.getElem?_toArray, ← List.append_assoc, getElem?_splice _ _ _ 3 _ hvl (by simpa using hfit3)]
    subst hi
    rw [insC_get vs cur.toList off i i k hvl (Nat.le_refl _) (by simpa using hfit)]
    by_cases hk2 : k < i * 3
    · rw [if_neg (by omega), if_pos hk2]
    · rw [if_pos (by omega), if_neg hk2, if_pos (by omega)]
      congr 1; omega
/-- at the end, no room -/
theorem insB (hr : ¬ n + 1 ≤ cap) (hi : i = n) : Calls Try.prog 64 #[.slice (some ⟨g, off, none⟩) n cap, .int .i64 n, .slice (some ⟨gv, ov, none⟩) 1 cv] w (InsP w g off n cap 74 (insC vs cur.toList off i n) cur) := by
  have _ := hm
  have _ := hroom
  obtain ⟨i0, hi0, hz0, hz1, hz2⟩ : ∃ q, (Try.prog).info? 74 = some q ∧ q.zero = some (.agg #[.int .i64 0, .int .i64 0, .int .i64 0]) ∧ q.size = 3 ∧ q.bytes = 24 := by
    have : ((Try.prog).info? 74).map (fun q => (q.zero, q.size, q.bytes)) = some (some (.agg #[.int .i64 0, .int .i64 0, .int .i64 0]), 3, 24) := by kernel_rfl
    simp only [Option.map_eq_some_iff, Prod.mk.injEq] at this
    obtain ⟨q, h1, h2, h3, h4⟩ := this
    exact ⟨q, h1, h2, h3, h4⟩
  have ht := Try.underlying59
  have hsrc : Src Try.prog i0.size 59 (.slice (some ⟨gv, ov, none⟩) 1 cv) 1 vs w := by
    rw [hz1]
    exact Src.ofSlice w ht ⟨gv, ov, none⟩ 1 cv vs (by omega) (fun j u hj => by rw [add_none]; simp [World.cell?, hgv, hvs j u hj]) h1v
  have hold : (Builtin.firstCells i0.size n (.slice (some ⟨g, off, none⟩) n cap)).run Try.prog w.drew = .ok ((cur.toList.drop off).take (n * 3)).toArray w.drew := by
    rw [hz1]
    exact run_firstCells_some w.drew 3 n ⟨g, off, none⟩ n cap _ (by simp; omega) (fun j v hj => by
      rw [List.getElem?_take] at hj
      split at hj
      · rw [List.getElem?_drop] at hj
        rw [add_none]
        show w.cell? _ = _
        simpa [World.cell?, hg] using hj
      · cases hj)
  have hrun : ∀ ty, (Builtin.append_ #[59, 59] ty #[.slice (some ⟨g, off, none⟩) n cap, .slice (some ⟨gv, ov, none⟩) 1 cv]).run Try.prog w = _ := fun ty =>
    run_append_grow_src w _ _ ty _ i0 _ ht hi0 hz0 (some ⟨g, off, none⟩) n cap _ hold _ 1 vs hsrc (by omega) (by omega) (by rw [hz2]; exact growslice_fits (by omega) (by omega))
  go_enter Try.func64, Try.ntmps64
  go_wp2_with (at_builtin; refine Lib.wpList_append_run _ rfl _ _ _ _ rfl _ _ rfl rfl _ _ (hrun _) ?_)
  go_ret
  have hge := grownCap_ge w (n + 1) cap 74
  have hle := grownCap_le_maxLen w (n + 1) cap 74 (by unfold maxLen; omega)
  refine ⟨rfl, rfl, rfl, .inr ⟨_, _, rfl, hge, hle, ?_, rfl, fun k hk => ?_⟩⟩
  · simp [size_zeroCells, hvl]
    rw [Nat.min_eq_left (by omega)]
    omega
  · have hl : ((cur.toList.drop off).take (n * 3) ++ vs).length = (n + 1) * 3 := by simp [hvl]; omega
    rw [Array.getElem?_append_left (by rw [List.size_toArray, hl]; exact hk), List.getElem?_toArray]
    subst hi
    simp [insC]
include hne
/-- within, there is room -/
theorem insCC (hr : n + 1 ≤ cap) (hi : i < n) : Calls Try.prog 64 #[.slice (some ⟨g, off, none⟩) n cap, .int .i64 i, .slice (some ⟨gv, ov, none⟩) 1 cv] w (InsP w g off n cap 74 (insC vs cur.toList off i n) cur) := by
  have _ := hnc
  have _ := hm
  obtain ⟨i0, hi0, hz0, hz1, hz2⟩ : ∃ q, (Try.prog).info? 74 = some q ∧ q.zero = some (.agg #[.int .i64 0, .int .i64 0, .int .i64 0]) ∧ q.size = 3 ∧ q.bytes = 24 := by
    have : ((Try.prog).info? 74).map (fun q => (q.zero, q.size, q.bytes)) = some (some (.agg #[.int .i64 0, .int .i64 0, .int .i64 0]), 3, 24) := by kernel_rfl
    simp only [Option.map_eq_some_iff, Prod.mk.injEq] at this
    obtain ⟨q, h1, h2, h3, h4⟩ := this
    exact ⟨q, h1, h2, h3, h4⟩
  have ht := Try.underlying59
  have hsz : cur.size ≠ 0 := by omega
  have hov : ∀ lb cb, (callFunc 85 #[.slice (some ⟨gv, ov, none⟩) 1 cv, .slice (some ⟨g, off + (i + 1) * 3, none⟩) lb cb]).run Try.prog w = .ok (.value (.bool false)) w := fun lb cb => by
    rw [run_callFunc_extern Try.func85 (by kernel_rfl) (by kernel_rfl) (by kernel_rfl) (e := Extern.SlicesOverlaps.overlaps #[59, 59] #[4]) (by kernel_rfl),
      Lib.run_overlaps_apart w 59 4 74 ht 3 (fun w => by simp [sizeOf, typeInfo, hi0, hz1]) ⟨gv, ov, none⟩ ⟨g, off + (i + 1) * 3, none⟩ 1 cv lb cb hne ev 74 curv.size cur.size (by simp [World.shape?, hgv]) (by simp [World.shape?, hg]) hsz (by simp [World.frozen?, hgv]) (by simp [World.frozen?, hgv])]
    rfl
  obtain ⟨c1, hc1⟩ : ∃ c1, c1 = (cur.toList.drop (off + i * 3)).take ((n - i) * 3) := ⟨_, rfl⟩
  have hl1 : c1.length = (n - i) * 3 := by rw [hc1]; simp; omega
  have hfit3 : off + (n + 1) * 3 ≤ cur.size := by have := hroom (by omega); omega
  have hcp1 : ∀ ty sc dc, (Builtin.copy_ #[59, 59] ty #[.slice (some ⟨g, off + (i + 1) * 3, none⟩) (n - i) dc, .slice (some ⟨g, off + i * 3, none⟩) (n + 1 - i) sc]).run Try.prog w.drew = _ := fun ty sc dc =>
    run_copy_at w.drew _ _ ty _ i0 g (off + (i + 1) * 3) (n - i) dc ⟨g, off + i * 3, none⟩ (n + 1 - i) sc cur 74 c1 ht hi0 hg (by rw [hl1, hz1]; simp only [Nat.min_def]; split <;> omega)
      (fun j v hj => by
        have hjl := (List.getElem?_eq_some_iff.1 hj).1
        rw [hc1, List.getElem?_take, if_pos (by omega), List.getElem?_drop] at hj
        rw [add_none]
        show w.cell? _ = _
        simpa [World.cell?, hg] using hj)
      (by omega)
      (fun v hv => by
        obtain ⟨j, hj⟩ := List.getElem?_of_mem hv
        have hjl := (List.getElem?_eq_some_iff.1 hj).1
        rw [hc1, List.getElem?_take, if_pos (by omega), List.getElem?_drop] at hj
        exact h1 (off + i * 3 + j) v (by omega) (by omega) (by simpa using hj))
  obtain ⟨d1, hd1⟩ : ∃ d1 : Array Value, d1 = (cur.toList.take (off + (i + 1) * 3) ++ c1 ++ cur.toList.drop (off + (i + 1) * 3 + c1.length)).toArray := ⟨_, rfl⟩
  have hds : d1.size = cur.size := by rw [hd1]; simp [hl1]; omega
  obtain ⟨W1, hW1⟩ : ∃ W1, W1 = w.drew.setRow g d1 := ⟨_, rfl⟩
  rw [← hd1, ← hW1] at hcp1
  have hgW : W1.heap[g]? = some (.cells d1 74 (0, 0)) := by rw [hW1]; exact setRow_heap_same _ _ _ cur _ hg
  have hvW : W1.heap[gv]? = some (.cells curv ev (0, 0)) := by rw [hW1, setRow_other _ _ _ _ hne]; exact hgv
  have hcp2 : ∀ ty dc, (Builtin.copy_ #[59, 59] ty #[.slice (some ⟨g, off + i * 3, none⟩) (n + 1 - i) dc, .slice (some ⟨gv, ov, none⟩) 1 cv]).run Try.prog W1 = _ := fun ty dc =>
    run_copy_at W1 _ _ ty _ i0 g (off + i * 3) (n + 1 - i) dc ⟨gv, ov, none⟩ 1 cv d1 74 vs ht hi0 hgW (by rw [hvl, hz1]; simp only [Nat.min_def]; split <;> omega)
      (fun j v hj => by rw [add_none]; simp [World.cell?, hvW, hvs j v hj]) (by omega) h1v
  obtain ⟨d2, hd2⟩ : ∃ d2 : Array Value, d2 = (d1.toList.take (off + i * 3) ++ vs ++ d1.toList.drop (off + i * 3 + vs.length)).toArray := ⟨_, rfl⟩
  rw [← hd2] at hcp2
  have hz5 : ¬ ((i : Int) = (n : Int)) := by omega
  have hr1 : ¬ ((cap : Int) < (n : Int) + 1) := by omega
  have hic : ¬ (cap = i) := by omega
  have hic1 : ¬ (cap = i + 1) := by omega
  have hin : i ≤ n := by omega
  have hin1 : i + 1 ≤ n + 1 := by omega
  have hw1 : IntKind.i64.wrap ((i : Int) + 1) = (i : Int) + 1 := by rw [IntKind.wrap_i64]; omega
  have hb1 : (0 : Int) ≤ (i : Int) + 1 := by omega
  have htn : ((i : Int) + 1).toNat = i + 1 := by omega
  have hb3 : (i : Int) ≤ (n : Int) := by omega
  have hb4 : (i : Int) + 1 ≤ (n : Int) + 1 := by omega
  have hb5 : (i : Int) ≤ (n : Int) + 1 := by omega
  have hb6 : i ≤ n + 1 := by omega
  have X1 : Hid (d1 = _) := hd1
  have X2 : Hid (d2 = _) := hd2
  have X3 : Hid (c1 = _) := hc1
  have X4 : Hid (W1 = w.drew.setRow g d1) := hW1
  have X5 : Hid (∀ k, k < (n + 1) * 3 → d2[off + k]? = (insC vs cur.toList off i n)[k]?) := by
    intro k hk
    rw [insC_get vs cur.toList off i n k hvl hin (by simpa using hfit), hd2, List.getElem?_toArray, hvl, getElem?_splice _ _ _ 3 _ hvl (by simp; omega), hd1, List.toList_toArray, hl1, getElem?_splice _ _ _ _ _ hl1 (by simp; omega)]
    by_cases hk1 : k < i * 3
    · rw [if_neg (by omega), if_neg (by omega), if_pos hk1]
    · rw [if_neg hk1]
      by_cases hk2 : k < i * 3 + 3
      · rw [if_pos (by omega), if_pos hk2]; congr 1; omega
      · have hA : ¬ (off + i * 3 ≤ off + k ∧ off + k < off + i * 3 + 3) := by omega
        have hB : off + (i + 1) * 3 ≤ off + k ∧ off + k < off + (i + 1) * 3 + (n - i) * 3 := by omega
        have hD : k < n * 3 + 3 := by omega
        rw [if_neg hA, if_pos hB, if_neg hk2, if_pos hD, hc1, List.getElem?_take, if_pos (by omega), List.getElem?_drop]
        congr 1; omega
  have X6 : Hid (d2.size = cur.size) := by unfold Hid; rw [hd2]; simp [hvl]; omega
  clear hd1 hd2 hc1 hW1 hl1
  go_enter Try.func64, Try.ntmps64
  go_wp2_with (simp only [hov])
  go_region_law (refine step_copy_at rfl _ _ 59 59 rfl _ _ (by simp [Act.eval, Act.put]) (by simp [Act.eval, Act.put]) (hcp1 _ _ _) ?_)
  go_wp2_with (at_builtin; refine wpList_copy_at _ rfl _ _ 59 59 rfl _ _ rfl rfl (hcp2 _ _) ?_)
  go_ret
  obtain rfl := X4.out
  exact ⟨rfl, rfl, rfl, .inl ⟨d2, rfl, hr, setRow_heap_same _ _ _ d1 _ hgW, X6.out, by simp, fun x hx => by rw [setRow_other _ _ _ _ hx, setRow_other _ _ _ _ hx]; rfl, X5.out⟩⟩
/-- within, no room -/
theorem insD (hr : ¬ n + 1 ≤ cap) (hi : i < n) : Calls Try.prog 64 #[.slice (some ⟨g, off, none⟩) n cap, .int .i64 i, .slice (some ⟨gv, ov, none⟩) 1 cv] w (InsP w g off n cap 74 (insC vs cur.toList off i n) cur) := by
  have _ := hne
  have _ := hm
  have _ := hroom
  obtain ⟨i0, hi0, hz0, hz1, hz2⟩ : ∃ q, (Try.prog).info? 74 = some q ∧ q.zero = some (.agg #[.int .i64 0, .int .i64 0, .int .i64 0]) ∧ q.size = 3 ∧ q.bytes = 24 := by
    have : ((Try.prog).info? 74).map (fun q => (q.zero, q.size, q.bytes)) = some (some (.agg #[.int .i64 0, .int .i64 0, .int .i64 0]), 3, 24) := by kernel_rfl
    simp only [Option.map_eq_some_iff, Prod.mk.injEq] at this
    obtain ⟨q, h1, h2, h3, h4⟩ := this
    exact ⟨q, h1, h2, h3, h4⟩
  have ht := Try.underlying59
  have hu3 := Try.underlying3
  obtain ⟨G, hG⟩ : ∃ G, G = grownCap w (n + 1) cap 74 := ⟨_, rfl⟩
  have hge : n + 1 ≤ G := by rw [hG]; exact grownCap_ge w _ _ _
  have hle : G ≤ maxLen := by rw [hG]; exact grownCap_le_maxLen w (n + 1) cap 74 (by unfold maxLen; omega)
  obtain ⟨olds, ho⟩ : ∃ olds, olds = (cur.toList.drop off).take (i * 3) := ⟨_, rfl⟩
  have hol : olds.length = i * 3 := by rw [ho]; simp; omega
  have hold : (Builtin.firstCells i0.size i (.slice (some ⟨g, off, none⟩) i cap)).run Try.prog w.drew = .ok olds.toArray w.drew := by
    rw [hz1]
    exact run_firstCells_some w.drew 3 i ⟨g, off, none⟩ i cap _ hol (fun j v hj => by
      rw [ho, List.getElem?_take] at hj
      split at hj
      · rw [List.getElem?_drop] at hj
        rw [add_none]
        show w.cell? _ = _
        simpa [World.cell?, hg] using hj
      · cases hj)
  have hik : i + (n + 1 - i) = n + 1 := by omega
  have hrz : ∀ ty, (Builtin.append_ #[59, 3] ty #[.slice (some ⟨g, off, none⟩) i cap, .int .i64 ((n : Int) + 1 - (i : Int))]).run Try.prog w = .ok (.slice (some ⟨w.heap.size, 0, none⟩) (n + 1) G) (w.drew.alloc (.cells (olds.toArray ++ Builtin.zeroCells #[.int .i64 0, .int .i64 0, .int .i64 0] (n + 1 - i) ++ Builtin.zeroCells #[.int .i64 0, .int .i64 0, .int .i64 0] (G - (n + 1))) 74)) := fun ty => by
    have h := Lib.run_append_grow_zeros w 59 3 ty 74 i0 _ .i64 .i64 ht hu3 hi0 hz0 (some ⟨g, off, none⟩) i cap olds hold (n + 1 - i) (by omega) (by omega) (by omega) (by omega) (by rw [hz2]; omega) (by rw [hz2, hik]; exact growslice_fits (by omega) (by omega))
    rw [hik, ← hG] at h
    rw [show (n : Int) + 1 - (i : Int) = ((n + 1 - i : Nat) : Int) by omega]
    exact h
  obtain ⟨r0, hr0⟩ : ∃ r0 : Array Value, r0 = olds.toArray ++ Builtin.zeroCells #[.int .i64 0, .int .i64 0, .int .i64 0] (n + 1 - i) ++ Builtin.zeroCells #[.int .i64 0, .int .i64 0, .int .i64 0] (G - (n + 1)) := ⟨_, rfl⟩
  rw [← hr0] at hrz
  have hrs : r0.size = G * 3 := by rw [hr0]; simp [size_zeroCells, hol]; omega
  obtain ⟨W0, hW0⟩ : ∃ W0, W0 = w.drew.alloc (.cells r0 74) := ⟨_, rfl⟩
  rw [← hW0] at hrz
  have glt : g < w.heap.size := (Array.getElem?_eq_some_iff.1 hg).1
  have gvlt : gv < w.heap.size := (Array.getElem?_eq_some_iff.1 hgv).1
  have far0 : ∀ x, x < w.heap.size → W0.heap[x]? = w.heap[x]? := fun x hx => by rw [hW0]; show (w.heap.push _)[x]? = _; rw [Array.getElem?_push_lt hx, Array.getElem?_eq_getElem hx]
  have new0 : W0.heap[w.heap.size]? = some (.cells r0 74 (0, 0)) := by rw [hW0]; show (w.heap.push _)[w.heap.size]? = _; rw [Array.getElem?_push_size]
  have hcp1 : ∀ ty dc, (Builtin.copy_ #[59, 59] ty #[.slice (some ⟨w.heap.size, i * 3, none⟩) (n + 1 - i) dc, .slice (some ⟨gv, ov, none⟩) 1 cv]).run Try.prog W0 = _ := fun ty dc =>
    run_copy_at W0 _ _ ty _ i0 w.heap.size (i * 3) (n + 1 - i) dc ⟨gv, ov, none⟩ 1 cv r0 74 vs ht hi0 new0 (by rw [hvl, hz1]; simp only [Nat.min_def]; split <;> omega)
      (fun j v hj => by rw [add_none]; simp [World.cell?, far0 gv gvlt, hgv, hvs j v hj]) (by omega) h1v
  obtain ⟨r1, hr1⟩ : ∃ r1 : Array Value, r1 = (r0.toList.take (i * 3) ++ vs ++ r0.toList.drop (i * 3 + vs.length)).toArray := ⟨_, rfl⟩
  rw [← hr1] at hcp1
  obtain ⟨W1, hW1⟩ : ∃ W1, W1 = W0.setRow w.heap.size r1 := ⟨_, rfl⟩
  rw [← hW1] at hcp1
  have hr1s : r1.size = G * 3 := by rw [hr1]; simp [hvl]; omega
  have new1 : W1.heap[w.heap.size]? = some (.cells r1 74 (0, 0)) := by rw [hW1]; exact setRow_heap_same _ _ _ r0 _ new0
  have far1 : ∀ x, x < w.heap.size → W1.heap[x]? = w.heap[x]? := fun x hx => by rw [hW1, setRow_other _ _ _ _ (by omega)]; exact far0 x hx
  obtain ⟨c1, hc1⟩ : ∃ c1, c1 = (cur.toList.drop (off + i * 3)).take ((n - i) * 3) := ⟨_, rfl⟩
  have hl1 : c1.length = (n - i) * 3 := by rw [hc1]; simp; omega
  have hcp2 : ∀ ty sc dc, (Builtin.copy_ #[59, 59] ty #[.slice (some ⟨w.heap.size, (i + 1) * 3, none⟩) (n - i) dc, .slice (some ⟨g, off + i * 3, none⟩) (n - i) sc]).run Try.prog W1.drew = _ := fun ty sc dc =>
    run_copy_at W1.drew _ _ ty _ i0 w.heap.size ((i + 1) * 3) (n - i) dc ⟨g, off + i * 3, none⟩ (n - i) sc r1 74 c1 ht hi0 new1 (by rw [hl1, hz1]; simp only [Nat.min_def]; split <;> omega)
      (fun j v hj => by
        have hjl := (List.getElem?_eq_some_iff.1 hj).1
        rw [hc1, List.getElem?_take, if_pos (by omega), List.getElem?_drop] at hj
        rw [add_none]
        show W1.cell? _ = _
        simpa [World.cell?, far1 g glt, hg] using hj)
      (by omega)
      (fun v hv => by
        obtain ⟨j, hj⟩ := List.getElem?_of_mem hv
        have hjl := (List.getElem?_eq_some_iff.1 hj).1
        rw [hc1, List.getElem?_take, if_pos (by omega), List.getElem?_drop] at hj
        exact h1 (off + i * 3 + j) v (by omega) (by omega) (by simpa using hj))
  obtain ⟨r2, hr2⟩ : ∃ r2 : Array Value, r2 = (r1.toList.take ((i + 1) * 3) ++ c1 ++ r1.toList.drop ((i + 1) * 3 + c1.length)).toArray := ⟨_, rfl⟩
  rw [← hr2] at hcp2
  have X5 : Hid (∀ k, k < (n + 1) * 3 → r2[k]? = (insC vs cur.toList off i n)[k]?) := by
    intro k hk
    rw [insC_get vs cur.toList off i n k hvl (by omega) (by simpa using hfit), hr2, List.getElem?_toArray, hl1, getElem?_splice _ _ _ _ _ hl1 (by simp; omega), hr1, List.toList_toArray, hvl, getElem?_splice _ _ _ 3 _ hvl (by simp; omega)]
    by_cases hk1 : k < i * 3
    · have hA : ¬ ((i + 1) * 3 ≤ k ∧ k < (i + 1) * 3 + (n - i) * 3) := by omega
      have hB : ¬ (i * 3 ≤ k ∧ k < i * 3 + 3) := by omega
      rw [if_neg hA, if_neg hB, if_pos hk1, hr0, Array.getElem?_toList, Array.getElem?_append_left (by simp; omega), Array.getElem?_append_left (by simp; omega), List.getElem?_toArray, ho, List.getElem?_take, if_pos hk1, List.getElem?_drop]
    · rw [if_neg hk1]
      by_cases hk2 : k < i * 3 + 3
      · have hA : ¬ ((i + 1) * 3 ≤ k ∧ k < (i + 1) * 3 + (n - i) * 3) := by omega
        have hB : i * 3 ≤ k ∧ k < i * 3 + 3 := by omega
        rw [if_neg hA, if_pos hB, if_pos hk2]
      · have hA : (i + 1) * 3 ≤ k ∧ k < (i + 1) * 3 + (n - i) * 3 := by omega
        have hD : k < n * 3 + 3 := by omega
        rw [if_pos hA, if_neg hk2, if_pos hD, hc1, List.getElem?_take, if_pos (by omega), List.getElem?_drop]
        congr 1; omega
  have X6 : Hid (r2.size = G * 3) := by unfold Hid; rw [hr2]; simp [hl1]; omega
  have X4 : Hid (W1 = (w.drew.alloc (.cells r0 74)).setRow w.heap.size r1) := by unfold Hid; rw [hW1, hW0]
  have hz5 : ¬ ((i : Int) = (n : Int)) := by omega
  have hr1' : (cap : Int) < (n : Int) + 1 := by omega
  have hicap : ¬ (cap = i) := by omega
  have hGi : ¬ (G = i) := by omega
  have hGi1 : ¬ (G = i + 1) := by omega
  have hin : i ≤ n := by omega
  have hin0 : i ≤ cap := by omega
  have hin1 : i + 1 ≤ n + 1 := by omega
  have hw1 : IntKind.i64.wrap ((i : Int) + 1) = (i : Int) + 1 := by rw [IntKind.wrap_i64]; omega
  have hb1 : (0 : Int) ≤ (i : Int) + 1 := by omega
  have htn : ((i : Int) + 1).toNat = i + 1 := by omega
  have hb3 : (i : Int) ≤ (n : Int) := by omega
  have hb4 : (i : Int) + 1 ≤ (n : Int) + 1 := by omega
  have hb5 : (i : Int) ≤ (n : Int) + 1 := by omega
  have hb6 : i ≤ n + 1 := by omega
  have hGm : G ≤ 9223372036854775807 := hle
  have X7 : Hid (W1.heap[w.heap.size]? = some (.cells r1 74 (0, 0))) := new1
  clear hr0 hr1 hr2 hW0 hW1 hc1 ho hl1 hol hold hG far0 far1 new0 new1 hik
  go_enter Try.func64, Try.ntmps64
  go_wp2_with (first
    | (at_builtin; refine Lib.wpList_append_run _ rfl _ _ _ _ rfl _ _ rfl rfl _ _ (hrz _) ?_)
    | (at_builtin; refine wpList_copy_at _ rfl _ _ 59 59 rfl _ _ rfl rfl (hcp1 _ _) ?_))
  go_region_law (refine step_copy_at rfl _ _ 59 59 rfl _ _ (by simp [Act.eval, Act.put]) (by simp [Act.eval, Act.put]) (hcp2 _ _ _) ?_)
  go_wp2
  go_ret
  obtain rfl := X4.out
  refine ⟨rfl, rfl, rfl, .inr ⟨r2, G, rfl, hge, hle, by rw [X6.out]; exact Nat.le_refl _, ?_, X5.out⟩⟩
  have e1 : ((w.drew.alloc (.cells r0 74)).setRow w.heap.size r1).drew.setRow w.heap.size r2 = (w.drew.alloc (.cells r0 74)).drew.setRow w.heap.size r2 := setRow_setRow (w.drew.alloc (.cells r0 74)).drew w.heap.size r1 r2
  rw [e1]
  refine Array.ext_getElem? fun x => ?_
  have hsz : w.heap.size = w.heap.size := rfl
  by_cases hx : x = w.heap.size
  · subst hx
    rw [setRow_heap_same _ _ _ r0 _ (by show (w.heap.push _)[w.heap.size]? = _; rw [Array.getElem?_push_size]), Array.getElem?_push_size]
  · rw [setRow_other _ _ _ _ hx]
    show (w.heap.push _)[x]? = _
    rw [Array.getElem?_push, Array.getElem?_push, if_neg hx, if_neg hx]
/-- slices.Insert of one -/
theorem insert_w (hi : i ≤ n) : Calls Try.prog 64 #[.slice (some ⟨g, off, none⟩) n cap, .int .i64 i, .slice (some ⟨gv, ov, none⟩) 1 cv] w (InsP w g off n cap 74 (insC vs cur.toList off i n) cur) := by
  by_cases h : i = n
  · by_cases hr : n + 1 ≤ cap
    · have := insA g off n cap i gv ov cv cur curv ev vs w hg hgv hvl hvs hnc hm hfit hroom hbig h1 h1v hr h
      subst h; exact this
    · have := insB g off n cap i gv ov cv cur curv ev vs w hg hgv hvl hvs hnc hm hfit hroom hbig h1 h1v hr h
      subst h; exact this
  · by_cases hr : n + 1 ≤ cap
    · exact insCC g off n cap i gv ov cv cur curv ev vs w hg hgv hne hvl hvs hnc hm hfit hroom hbig h1 h1v hr (by omega)
    · exact insD g off n cap i gv ov cv cur curv ev vs w hg hgv hne hvl hvs hnc hm hfit hroom hbig h1 h1v hr (by omega)
end
end Go.Proofs.Ytjmjnndmpeeppaa

/- A function's contract out of its body; a call met by a contract in the caller's own names. No condition. -/
import Derived.Test.YtjmjnndmpeeppaaAhiConv
namespace Go.Proofs.Ytjmjnndmpeeppaa
open Go.RowKit
set_option linter.unusedVariables false
set_option linter.unusedSimpArgs false

section
variable {P : Program}

/-- A function's contract in names of its own: they are all that is known when it is called. -/
def ACallL (P : Program) (f : FuncId) (args : List AV) (L0 : List Own) (res : AV) (L1 : List Own) : Prop :=
  Callable P f ∧ ∀ (m : Nm) (w : World) (vs : Array Value), Rel m (ofL L0) w → RL m (ofL L0) w args vs →
    Calls P f vs w fun e w' => ∃ v m', e = .returned v ∧ Rel m' (ofL L1) w' ∧ Ev m (ofL L0) w m' (ofL L1) w' ∧ R m' (ofL L1) w' res v

@[go_sem] def ares1 (P : Program) (sl : List AV) (h : List Own) : ResultVar → Option AV
  | .tmp t => some (sl.getD t (.val undef))
  | .cell a t => (aload P t (sl.getD a (.val undef)) (ofL h)).map (·.av)
@[go_sem] def aresL (P : Program) (sl : List AV) (h : List Own) : List ResultVar → Option (List AV)
  | [] => some []
  | r :: rs => (ares1 P sl h r).bind fun x => (aresL P sl h rs).map fun xs => x :: xs
@[go_sem] def aresT : List AV → AV
  | [x] => x
  | xs => .tup xs
@[go_sem] def ares (P : Program) (rs : List ResultVar) (sl : List AV) (h : List Own) : Option AV := (aresL P sl h rs).map aresT

theorem aload_run {m : Nm} {h : Hp} {w : World} (rel : Rel m h w) {t : TypeId} {x : AV} {v : Value} {r : Res} (hr : aload P t x h = some r) (hR : R m h w x v) : ∃ u, (do loadVar t (← asAddr v) : Sem Value).run P w = .ok u w ∧ R m h w r.av u := by
  have H := aload_ok (P := P) (s := [x]) (o := ⟨none, .load t (.tmp 0), 0, "", #[], none⟩) (t := t) (x := .tmp 0) rfl (look := h) (r := r) (by simpa [ae] using hr)
  have hrd : ∀ p ∈ r.rd, h p.1 = p.2 := by
    unfold aload at hr
    split at hr
    · split at hr
      · split at hr
        · rename_i hk
          split at hr
          · simp only [Option.map_eq_some_iff] at hr
            obtain ⟨_, _, rfl⟩ := hr
            simp [hk]
          · cases hr
        · cases hr
      · split at hr
        · rename_i hk
          simp only [Option.map_eq_some_iff] at hr
          obtain ⟨_, _, rfl⟩ := hr
          simp [hk]
        · rename_i hk
          simp only [Option.map_eq_some_iff] at hr
          obtain ⟨_, _, rfl⟩ := hr
          simp [hk]
        · cases hr
      · cases hr
    · cases hr
  -- by the shape of the address
  have hv : ∃ g o, v = .pointer (some ⟨g, o, none⟩) := by
    unfold aload at hr
    split at hr
    · split at hr
      · split at hr
        · rename_i hk
          obtain ⟨e, _⟩ := R.ptr_row rel hk hR
          exact ⟨_, _, e⟩
        · cases hr
      · split at hr
        · rename_i hk
          obtain ⟨g, o, e, _⟩ := R.lptr_row (by rw [hk]; trivial) hR
          exact ⟨_, _, e⟩
        · rename_i hk
          obtain ⟨g, o, e, _⟩ := R.lptr_row (by rw [hk]; trivial) hR
          exact ⟨_, _, e⟩
        · cases hr
      · cases hr
    · cases hr
  obtain ⟨g, o, rfl⟩ := hv
  obtain ⟨nx, u, m', w', h1, h2, h3, h4, h5⟩ := H h hrd m w ⟨#[.pointer (some ⟨g, o, none⟩)], []⟩ rel (fun y hy => by
    simp [Op.operands] at hy
    subst hy
    simpa [ae, Act.eval] using hR)
  have hT : r.T = [] := by
    unfold aload at hr
    split at hr
    · split at hr
      · split at hr
        · split at hr
          · simp only [Option.map_eq_some_iff] at hr
            obtain ⟨_, _, rfl⟩ := hr; rfl
          · cases hr
        · cases hr
      · split at hr
        · simp only [Option.map_eq_some_iff] at hr
          obtain ⟨_, _, rfl⟩ := hr; rfl
        · simp only [Option.map_eq_some_iff] at hr
          obtain ⟨_, _, rfl⟩ := hr; rfl
        · cases hr
      · cases hr
    · cases hr
  -- a load leaves the world as it is
  have key : ∀ b n (ha : isAggT P t = some b) (hs : sizeT P t = some n) (row : List AV) (off j : Nat) (av : AV), o = off + j → (∀ (j : Nat) (c : AV), row[j]? = some c → ∃ v, w.cell? ⟨g, off + j, none⟩ = some v ∧ R m h w c v) →
      (if b then (if j + n ≤ row.length then some (AV.agg ((row.drop j).take n)) else none) else row[j]?) = some av → ∃ u, (do loadVar t (← asAddr (.pointer (some ⟨g, o, none⟩))) : Sem Value).run P w = .ok u w ∧ R m h w av u := by
    intro b n ha hs row off j av e hc hav
    subst e
    obtain ⟨u, u1, u2⟩ := load_row ha hs hc hav
    exact ⟨u, by simp [asAddr, u1], u2⟩
  clear h1 h2 h3 h4 h5 H
  unfold aload at hr
  split at hr
  · rename_i b n ha hs
    split at hr
    · rename_i p i j
      split at hr
      · rename_i k hk
        split at hr
        · rename_i row hrow
          simp only [Option.map_eq_some_iff] at hr
          obtain ⟨av, hav, rfl⟩ := hr
          obtain ⟨e, hc⟩ := R.ptr_row rel hk hR
          simp only [Value.pointer.injEq, Option.some.injEq, Addr.mk.injEq, and_true] at e
          obtain ⟨rfl, e2⟩ := e
          exact key b n ha hs row _ j av e2 (hc row hrow) hav
        · cases hr
      · cases hr
    · rename_i r0 row j
      have fin : ∀ (kd : Own), kd.imm → h r0 = kd → ∀ av, (if b then (if j + n ≤ row.length then some (AV.agg ((row.drop j).take n)) else none) else row[j]?) = some av → ∃ u, (do loadVar t (← asAddr (.pointer (some ⟨g, o, none⟩))) : Sem Value).run P w = .ok u w ∧ R m h w av u := by
        intro kd hkd hk av hav
        obtain ⟨g', o', e, hc⟩ := R.lptr_row (by rw [hk]; exact hkd) hR
        simp only [Value.pointer.injEq, Option.some.injEq, Addr.mk.injEq, and_true] at e
        obtain ⟨rfl, e2⟩ := e
        exact key b n ha hs row o' j av e2 hc hav
      split at hr
      · rename_i hk
        simp only [Option.map_eq_some_iff] at hr
        obtain ⟨av, hav, rfl⟩ := hr
        exact fin .perm trivial hk av hav
      · rename_i hk
        simp only [Option.map_eq_some_iff] at hr
        obtain ⟨av, hav, rfl⟩ := hr
        exact fin .uniq trivial hk av hav
      · cases hr
    · cases hr
  · cases hr

def res1 (tmps : Array Value) : ResultVar → Sem Value
  | .tmp t => pure (tmps.getD t undef)
  | .cell b t => do loadVar t (← asAddr (tmps.getD b undef))
theorem results_eq (fn : Func) (tmps : Array Value) : results fn tmps = (do let vs ← fn.results.mapM (res1 tmps); pure (if h : vs.size = 1 then vs[0] else .tuple vs)) := by
  unfold results
  congr 1

theorem ares_run {m : Nm} {w : World} {sl : List AV} {h : List Own} {a : Act} (st : StR m sl (ofL h) a w) {fn : Func} {av : AV} (hr : ares P fn.results.toList sl h = some av) : ∃ v, (results fn a.tmps).run P w = .ok v w ∧ R m (ofL h) w av v := by
  have one : ∀ (r : ResultVar) (x : AV), ares1 P sl h r = some x → ∃ v, (res1 a.tmps r).run P w = .ok v w ∧ R m (ofL h) w x v := by
    intro r x hx
    cases r with
    | tmp t => simp only [ares1, Option.some.injEq] at hx; subst hx; exact ⟨_, by simp [res1], st.slots t⟩
    | cell b t =>
      simp only [ares1, Option.map_eq_some_iff] at hx
      obtain ⟨q, hq, rfl⟩ := hx
      exact aload_run st.rel hq (st.slots b)
  have many : ∀ (rs : List ResultVar) (xs : List AV), aresL P sl h rs = some xs → ∃ vs : List Value, (rs.mapM (res1 a.tmps)).run P w = .ok vs w ∧
      xs.length = vs.length ∧ ∀ (i : Nat) (c : AV) (v : Value), xs[i]? = some c → vs[i]? = some v → R m (ofL h) w c v := by
    intro rs
    induction rs with
    | nil => intro xs hx; simp only [aresL, Option.some.injEq] at hx; subst hx; exact ⟨[], by simp, rfl, by simp⟩
    | cons r rs ih =>
      intro xs hx
      simp only [aresL, Option.bind_eq_some_iff, Option.map_eq_some_iff] at hx
      obtain ⟨x, hx1, xs', hx2, rfl⟩ := hx
      obtain ⟨v, v1, v2⟩ := one r x hx1
      obtain ⟨vs, w1, w2, w3⟩ := ih xs' hx2
      refine ⟨v :: vs, ?_, by simp [w2], fun i c u h1 h2 => ?_⟩
      · rw [List.mapM_cons]
        simp only [Sem.run_bind, v1, Result.andThen_ok, w1, Sem.run_pure]
      · cases i with
        | zero => simp at h1 h2; subst h1 h2; exact v2
        | succ i => exact w3 i c u (by simpa using h1) (by simpa using h2)
  simp only [ares, Option.map_eq_some_iff] at hr
  obtain ⟨xs, hxs, rfl⟩ := hr
  obtain ⟨vs, h1, h2, h3⟩ := many _ xs hxs
  have hm : (fn.results.mapM (res1 a.tmps)).run P w = .ok vs.toArray w := by
    rw [Array.mapM_eq_mapM_toList, Sem.run_map, h1]
    rfl
  refine ⟨if h : vs.toArray.size = 1 then vs.toArray[0] else .tuple vs.toArray, ?_, ?_⟩
  · rw [results_eq, Sem.run_bind, hm]
    rfl
  · clear hxs h1 hm
    match xs, vs, h2, h3 with
    | [], [], _, _ => simp only [aresT]; exact .tup _ _ (by simp) (by simp)
    | [x], [v], _, h3 => simp only [aresT]; simpa using h3 0 x v rfl rfl
    | x :: y :: xs, v :: u :: vs, hl, h3 =>
      simp only [aresT]
      rw [dif_neg (by simp)]
      exact .tup _ _ (by simpa using hl) (fun i c v a b => h3 i c v a (by simpa using b))

/-- what a body owes at its end -/
def aRet (P : Program) (B : Base) (rs : List ResultVar) (res : AV) (L1 : List Own) : AExit → ASt → Prop
  | .normal, st => ∃ av, ares P rs st.sl st.h = some av ∧ ConvS B ⟨[av], st.h⟩ ⟨[res], L1⟩
  | .ret, st => ∃ av, ares P rs st.sl st.h = some av ∧ ConvS B ⟨[av], st.h⟩ ⟨[res], L1⟩
  | _, _ => False
@[go_sem ↓] theorem aRet_normal (B rs res L1 st) : aRet P B rs res L1 .normal st = ∃ av, ares P rs st.sl st.h = some av ∧ ConvS B ⟨[av], st.h⟩ ⟨[res], L1⟩ := rfl
@[go_sem ↓] theorem aRet_ret (B rs res L1 st) : aRet P B rs res L1 .ret st = ∃ av, ares P rs st.sl st.h = some av ∧ ConvS B ⟨[av], st.h⟩ ⟨[res], L1⟩ := rfl

theorem ACallL.of_awp (hm : P.follows .mixedOrders = true) {f : FuncId} {fn : Func} {c : Code} {args : List AV} {L0 : List Own} {res : AV} {L1 : List Own} {rs : List ResultVar} {n : Nat} (hf : P.funcs[f]? = some fn) (hb : fn.body = some c) (hc : Callable P f)
    (hrs : fn.results.toList = rs) (hn : fn.ntmps = n) (h : ∀ B : Base, B.h = ofL L0 → awp P B c (aRet P B rs res L1) (args ++ List.replicate (n - args.length) (.val undef)) L0) : ACallL P f args L0 res L1 := by
  subst hrs hn
  refine ⟨hc, fun m w vs rel hl => ?_⟩
  let B : Base := ⟨m, ofL L0, w, rel⟩
  have H := awp_sound hm (B := B) c _ ⟨_, _⟩ (h B rfl)
  refine calls_of_wp hf hb (wp_mono (H m w _ ⟨rel, fun t => ?_, by simp [hl.1], rfl⟩ (Ev.refl _ _ _)) ?_)
  · by_cases ht : t < args.length
    · have e1 : (args ++ List.replicate (fn.ntmps - args.length) (AV.val undef)).getD t (.val undef) = args[t] := by simp [List.getD, List.getElem?_append_left, ht]
      have hts : t < vs.size := by rw [← hl.1]; exact ht
      have e2 : (vs ++ Array.replicate (fn.ntmps - vs.size) undef).getD t undef = vs[t] := by
        simp only [Array.getD_eq_getD_getElem?, Array.getElem?_append_left hts, Array.getElem?_eq_getElem hts, Option.getD_some]
      simp only
      rw [e1, e2]
      exact hl.2 t _ _ (List.getElem?_eq_getElem ht) (Array.getElem?_eq_getElem hts)
    · have e1 : (args ++ List.replicate (fn.ntmps - args.length) (AV.val undef)).getD t (.val undef) = .val undef := by
        simp only [List.getD_eq_getElem?_getD, List.getElem?_append_right (Nat.le_of_not_lt ht), List.getElem?_replicate]
        split <;> rfl
      have e2 : (vs ++ Array.replicate (fn.ntmps - vs.size) undef).getD t undef = undef := by
        simp only [Array.getD_eq_getD_getElem?]
        rw [Array.getElem?_append_right (by rw [← hl.1]; omega), Array.getElem?_replicate]
        split <;> rfl
      simp only
      rw [e1, e2]
      exact .val _
  · rintro e a' w' ⟨e', st', m', rfl, hq, hs', ev⟩
    have fin : (∃ av, ares P fn.results.toList st'.sl st'.h = some av ∧ ConvS B ⟨[av], st'.h⟩ ⟨[res], L1⟩) → a'.defers = [] ∧ ∃ v, (results fn a'.tmps).run P w' = .ok v w' ∧ ∃ v' m', Ending.returned v = .returned v' ∧ Rel m' (ofL L1) w' ∧ Ev m (ofL L0) w m' (ofL L1) w' ∧ R m' (ofL L1) w' res v' := by
      rintro ⟨av, hav, hcv⟩
      obtain ⟨v, hv, hR⟩ := ares_run hs' hav
      obtain ⟨m2, hs2, ev2⟩ := hcv m' w' ⟨#[v], []⟩ ⟨hs'.rel, fun t => by
        cases t with
        | zero => simpa using hR
        | succ t => simp; exact .val _, rfl, rfl⟩ ev
      refine ⟨hs'.defers, v, hv, v, m2, rfl, hs2.rel, ev2, ?_⟩
      simpa using hs2.slots 0
    cases e' with
    | normal => exact fin hq
    | ret => exact fin hq
    | exit id => exact hq.elim
    | goto l => exact hq.elim
end
end Go.Proofs.Ytjmjnndmpeeppaa

/- Code on data: what is asked ahead of it so that a post holds behind it; sound against the walk's own. No condition. -/
import Derived.Test.YtjmjnndmpeeppaaAhiAny
namespace Go.Proofs.Ytjmjnndmpeeppaa
open Go.RowKit
set_option linter.unusedVariables false
set_option linter.unusedSimpArgs false

/-- the state on data -/
structure ASt where
  sl : List AV
  h : List Own

def ofL (l : List Own) : Hp := fun i => l.getD i .unused
@[go_sem] def setO (l : List Own) (id : Nat) (o : Own) : List Own := if id < l.length then l.set id o else l ++ [o]
@[go_sem] def apT (l : List Own) : List (Nat × Own) → List Own
  | [] => l
  | p :: T => apT (setO l p.1 p.2) T
def fitT (l : List Own) : List (Nat × Own) → Prop
  | [] => True
  | p :: T => p.1 ≤ l.length ∧ fitT (setO l p.1 p.2) T

theorem ofL_setO {l : List Own} {id : Nat} {o : Own} (h : id ≤ l.length) : ofL (setO l id o) = (ofL l).upd id o := by
  funext x
  unfold ofL setO Hp.upd
  split
  · by_cases e : x = id
    · subst e; simp [List.getD, *]
    · simp [List.getD, List.getElem?_set_ne (Ne.symm e), e]
  · have hid : id = l.length := by omega
    subst hid
    by_cases e : x = l.length
    · subst e; simp [List.getD]
    · simp only [List.getD_eq_getElem?_getD, if_neg e]
      by_cases hx : x < l.length
      · rw [List.getElem?_append_left hx]
      · rw [List.getElem?_append_right (by omega), List.getElem?_eq_none (by simp; omega), List.getElem?_eq_none (by omega)]
theorem ofL_apT : ∀ {T : List (Nat × Own)} {l : List Own}, fitT l T → ofL (apT l T) = (ofL l).upds T
  | [], _, _ => rfl
  | p :: T, l, h => by
    show ofL (apT (setO l p.1 p.2) T) = ((ofL l).upd p.1 p.2).upds T
    rw [ofL_apT h.2, ofL_setO h.1]
theorem ofL_len (l : List Own) : ofL l l.length = .unused := by simp [ofL, List.getD]
theorem ofL_lt {l : List Own} {b : Nat} {k : Blk} (h : ofL l b = .live k) : b < l.length := by
  rcases Nat.lt_or_ge b l.length with h' | h'
  · exact h'
  · simp [ofL, List.getD, List.getElem?_eq_none h'] at h
theorem setO_len {l : List Own} {b : Nat} {o : Own} (h : b < l.length) : (setO l b o).length = l.length := by simp [setO, h]

section
variable {P : Program}

theorem alive_rd {look : Nat → Own} {x : AV} {rd : List (Nat × Own)} (h : alive look x = some rd) : ∀ q ∈ rd, look q.1 = q.2 := by
  cases x <;> simp only [alive] at h
  case ptr => split at h <;> cases h; rename_i hk; simp [hk]
  case lptr => split at h <;> cases h <;> (rename_i hk; simp [hk])
  case sl => split at h <;> cases h; rename_i hk; simp [hk]
  case list => split at h <;> cases h <;> (rename_i hk; simp [hk])
  case glist => split at h <;> cases h <;> (rename_i hk; simp [hk])
  all_goals (cases h; simp)

/-- the least, the greatest of whole numbers -/
def ammGo (mx : Bool) : AV → List AV → Option AV
  | x, [] => match x with
    | .val (.int k a) => some (.val (.int k a))
    | _ => none
  | x, y :: rest => match x, y with
    | .val (.int k a), .val (.int k' b) => if k = k' then (match mx with | true => ammGo mx (.val (.int k (max a b))) rest | false => ammGo mx (.val (.int k (min a b))) rest) else none
    | _, _ => none
def amm (mx : Bool) : List AV → Option AV
  | [] => none
  | x :: xs => ammGo mx x xs

@[go_sem] def aop (P : Program) (o : Oper) (sl : List AV) (h : List Own) : Option Res :=
  match o.op with
  | .move x => some ⟨ae sl x, [], []⟩
  | .assign x => some ⟨ae sl x, [], []⟩
  | .pick c a b => (apick (ae sl c) (ae sl a) (ae sl b)).map fun v => ⟨v, [], []⟩
  | .binOp op _ x y _ => match ae sl x, ae sl y with
    | .val u, .val v => (abin op u v).map fun r => ⟨.val r, [], []⟩
    | _, _ => none
  | .unOp op _ x => match ae sl x with
    | .val u => (aun op u).map fun r => ⟨.val r, [], []⟩
    | _ => none
  | .convert s d x => (aconv P s d (ae sl x)).map fun v => ⟨v, [], []⟩
  | .nilCheck x => (anil (ae sl x)).bind fun v => (alive (ofL h) (ae sl x)).map fun rd => ⟨v, rd, []⟩
  | .field t x f => (afield P t f (ae sl x)).map fun v => ⟨v, [], []⟩
  | .extract x i => (aextract (ae sl x) i).map fun v => ⟨v, [], []⟩
  | .fieldAddr t x f => (afaddr P t f (ae sl x)).bind fun v => (alive (ofL h) (ae sl x)).map fun rd => ⟨v, rd, []⟩
  | .indexAddr t x y => match ae sl y with
    | .val (.int _ n) => (aindex P t (ae sl x) n (ofL h)).bind fun v => (alive (ofL h) (ae sl x)).map fun rd => ⟨v, rd, []⟩
    | _ => none
  | .slice t x lo hi mx => (abnd sl lo).bind fun l => (abnd sl hi).bind fun hh => (abnd sl mx).bind fun mm => (aslice P t (ae sl x) l hh mm (ofL h)).bind fun v => (alive (ofL h) (ae sl x)).map fun rd => ⟨v, rd, []⟩
  | .load t x => aload P t (ae sl x) (ofL h)
  | .store t x y => astore P t (ae sl x) (ae sl y) (ofL h)
  | .alloc t => aalloc P t h.length
  | .box t x => abox t (ae sl x) h.length
  | .build t parts => (abuild P t (parts.toList.map fun p => (p.1, ae sl p.2))).map fun v => ⟨v, [], []⟩
  | .buildSlice t n parts => abslice P t n (parts.toList.map fun p => (p.1, ae sl p.2)) h.length
  | .makeSlice t x y => match ae sl x, ae sl y with
    | .val (.int _ l), .val (.int _ l') => if l = l' then amake P t l h.length else none
    | _, _ => none
  | .makeFunc (.func f) first caps => if first.toList.length = 0 then some ⟨.clo f (caps.toList.map (ae sl)), [], []⟩ else none
  | .call c => match c.callee, c.args.toList, c.argTypes.toList with
    | .builtin .len, [x], [t] => match elemT P t with
      | some _ => (alen (ae sl x)).bind fun n => (alive (ofL h) (ae sl x)).map fun rd => ⟨.val (.int .i64 n), rd, []⟩
      | none => none
    | .builtin .append, [x, y], [t, t'] => if t = t' then (alive (ofL h) (ae sl y)).bind fun rd => aapp P t (ae sl x) (ae sl y) (ofL h) h.length rd else none
    | .builtin .min, xs, _ => (amm false (xs.map (ae sl))).map fun v => ⟨v, [], []⟩
    | .builtin .max, xs, _ => (amm true (xs.map (ae sl))).map fun v => ⟨v, [], []⟩
    | _, _, _ => none
  | _ => none

theorem ammGo_run {m : Nm} {h : Hp} {w : World} (mx : Bool) : ∀ (l : List AV) (x r : AV) (u : Value) (vs : List Value), ammGo mx x l = some r → R m h w x u → l.length = vs.length → (∀ (i : Nat) (c : AV) (v : Value), l[i]? = some c → vs[i]? = some v → R m h w c v) →
    ∃ v, (vs.foldlM (if mx then Builtin.max2 else Builtin.min2) u).run P w = .ok v w ∧ R m h w r v := by
  intro l
  induction l with
  | nil =>
    intro x r u vs hr hu hl _
    have : vs = [] := List.eq_nil_of_length_eq_zero hl.symm
    subst this
    unfold ammGo at hr
    split at hr
    · cases hr; exact ⟨u, by simp, hu⟩
    · cases hr
  | cons y l ih =>
    intro x r u vs hr hu hl hR
    match vs, hl with
    | v :: vs, hl =>
      have hv := hR 0 y v rfl rfl
      have go : ∀ (k k' : IntKind) (a b : Int) (z : Int), x = .val (.int k a) → y = .val (.int k' b) → z = (if mx then max a b else min a b) → k = k' → ammGo mx (.val (.int k z)) l = some r →
          ∃ v', ((v :: vs).foldlM (if mx then Builtin.max2 else Builtin.min2) u).run P w = .ok v' w ∧ R m h w r v' := by
        rintro k k' a b z rfl rfl rfl rfl hr
        have e1 := hu.val_inv
        have e2 := hv.val_inv
        subst e1 e2
        obtain ⟨v', h1, h2⟩ := ih _ r (.int k (if mx then max a b else min a b)) vs hr (.val _) (by simpa using hl) (fun i c v hc hv => hR (i + 1) c v (by simpa using hc) (by simpa using hv))
        refine ⟨v', ?_, h2⟩
        rw [← h1, List.foldlM_cons]
        cases mx
        · have : (if b < a then b else a) = min a b := by rw [Int.min_def]; split <;> split <;> omega
          simp [Builtin.min2, this]
        · have : (if a < b then b else a) = max a b := by rw [Int.max_def]; split <;> split <;> omega
          simp [Builtin.max2, this]
      unfold ammGo at hr
      split at hr
      · rename_i k a k' b
        split at hr
        · rename_i hk
          cases mx with
          | true => exact go _ _ _ _ _ rfl rfl rfl hk hr
          | false => exact go _ _ _ _ _ rfl rfl rfl hk hr
        · cases hr
      · cases hr
theorem amm_run {m : Nm} {h : Hp} {w : World} (mx : Bool) (l : List AV) (vs : List Value) (r : AV) (hr : amm mx l = some r) (hl : l.length = vs.length) (hR : ∀ (i : Nat) (c : AV) (v : Value), l[i]? = some c → vs[i]? = some v → R m h w c v) :
    ∃ v, (match vs with | [] => (stuck "" : Sem Value) | x :: rest => rest.foldlM (if mx then Builtin.max2 else Builtin.min2) x).run P w = .ok v w ∧ R m h w r v := by
  match l, vs, hl with
  | [], _, _ => cases hr
  | x :: l, v :: vs, hl => exact ammGo_run mx l x r v vs hr (hR 0 x v rfl rfl) (by simpa using hl) (fun i c v hc hv => hR (i + 1) c v (by simpa using hc) (by simpa using hv))

/-- it fits the names as they stand -/
def Fits (h : List Own) (r : Res) : Prop := (∀ q ∈ r.rd, ofL h q.1 = q.2) ∧ fitT h r.T

theorem fits_pure {h : List Own} {av : AV} : Fits h ⟨av, [], []⟩ := ⟨by simp, trivial⟩
theorem fits_rd {h : List Own} {av : AV} {x : AV} {rd : List (Nat × Own)} (hl : alive (ofL h) x = some rd) : Fits h ⟨av, rd, []⟩ := ⟨alive_rd hl, trivial⟩

theorem fits_load {t : TypeId} {x : AV} {h : List Own} {r : Res} (hr : aload P t x (ofL h) = some r) : Fits h r := by
  unfold aload at hr
  split at hr
  · split at hr
    · split at hr
      · rename_i hk
        split at hr
        · simp only [Option.map_eq_some_iff] at hr
          obtain ⟨_, _, rfl⟩ := hr
          exact ⟨by simp [hk], trivial⟩
        · cases hr
      · cases hr
    · split at hr
      · rename_i hk
        simp only [Option.map_eq_some_iff] at hr
        obtain ⟨_, _, rfl⟩ := hr
        exact ⟨by simp [hk], trivial⟩
      · rename_i hk
        simp only [Option.map_eq_some_iff] at hr
        obtain ⟨_, _, rfl⟩ := hr
        exact ⟨by simp [hk], trivial⟩
      · cases hr
    · cases hr
  · cases hr

theorem fits_store {t : TypeId} {x y : AV} {h : List Own} {r : Res} (hr : astore P t x y (ofL h) = some r) : Fits h r := by
  unfold astore at hr
  split at hr
  · split at hr
    · rename_i hk
      split at hr
      · split at hr
        · cases hr
          exact ⟨by simp [hk], ⟨Nat.le_of_lt (ofL_lt hk), trivial⟩⟩
        · cases hr
      · cases hr
    · cases hr
  · cases hr

theorem fits_append {t : TypeId} {x y : AV} {h : List Own} {r : Res} {rd : List (Nat × Own)} (hl : alive (ofL h) y = some rd) (hr : aappend P t x y (ofL h) h.length rd = some r) : Fits h r := by
  unfold aappend at hr
  split at hr
  · split at hr
    · split at hr
      · split at hr
        · split at hr
          · cases hr
            refine ⟨fun q hq => ?_, ⟨Nat.le_refl _, trivial⟩⟩
            rcases List.mem_cons.1 hq with rfl | hq
            · exact ofL_len h
            · exact alive_rd hl q hq
          · cases hr
        · split at hr
          · rename_i hk
            split at hr
            · cases hr
              have hlt := ofL_lt hk
              refine ⟨fun q hq => ?_, ⟨Nat.le_of_lt hlt, ?_, trivial⟩⟩
              · rcases List.mem_cons.1 hq with rfl | hq
                · exact hk
                · rcases List.mem_cons.1 hq with rfl | hq
                  · exact ofL_len h
                  · exact alive_rd hl q hq
              · rw [setO_len hlt]; exact Nat.le_refl _
            · cases hr
          · cases hr
        · cases hr
      · cases hr
    · cases hr
  · cases hr

theorem fits_app {t : TypeId} {x y : AV} {h : List Own} {r : Res} {rd : List (Nat × Own)} (hl : alive (ofL h) y = some rd) (hr : aapp P t x y (ofL h) h.length rd = some r) : Fits h r := by
  unfold aapp at hr
  split at hr
  · rename_i q sz0 rows0
    unfold agrow at hr
    repeat' (split at hr)
    all_goals (try (simp at hr; done))
    all_goals (try (rename_i hne _ _ _; exact (hne _ _ _ rfl).elim))
    rename_i he _ hk _
    injection he with e1 e2 e3
    subst e1 e2 e3
    cases hr
    have hlt : ∀ {b}, ofL h b = .uniq → b < h.length := fun {b} e => by
      rcases Nat.lt_or_ge b h.length with h1 | h1
      · exact h1
      · simp [ofL, List.getD, List.getElem?_eq_none h1] at e
    have hlt := hlt hk
    refine ⟨fun x hx => ?_, ⟨Nat.le_of_lt (by assumption), ?_, trivial⟩⟩
    · rcases List.mem_cons.1 hx with rfl | hq
      · exact hk
      · rcases List.mem_cons.1 hq with rfl | hq
        · exact ofL_len h
        · exact alive_rd hl _ hq
    · rw [setO_len (by assumption)]; exact Nat.le_refl _
  · exact fits_append hl hr

theorem aop_ok {o : Oper} {sl : List AV} {h : List Own} {r : Res} (hr : aop P o sl h = some r) : OpL P o sl r ∧ Fits h r := by
  unfold aop at hr
  split at hr
  case h_1 x ho => cases hr; exact ⟨aval_move (.inl ho), fits_pure⟩
  case h_2 x ho => cases hr; exact ⟨aval_move (.inr ho), fits_pure⟩
  case h_3 c a b ho =>
    simp only [Option.map_eq_some_iff] at hr
    obtain ⟨v, hv, rfl⟩ := hr
    exact ⟨apick_ok ho hv, fits_pure⟩
  case h_4 op t x y u ho =>
    split at hr
    · rename_i v1 v2 h1 h2
      simp only [Option.map_eq_some_iff] at hr
      obtain ⟨v, hv, rfl⟩ := hr
      exact ⟨abin_ok ho h1 h2 hv, fits_pure⟩
    · cases hr
  case h_5 op t x ho =>
    split at hr
    · rename_i v1 h1
      simp only [Option.map_eq_some_iff] at hr
      obtain ⟨v, hv, rfl⟩ := hr
      exact ⟨aun_ok ho h1 hv, fits_pure⟩
    · cases hr
  case h_6 s d x ho =>
    simp only [Option.map_eq_some_iff] at hr
    obtain ⟨v, hv, rfl⟩ := hr
    exact ⟨aconv_ok ho hv, fits_pure⟩
  case h_7 x ho =>
    simp only [Option.bind_eq_some_iff, Option.map_eq_some_iff] at hr
    obtain ⟨v, hv, rd, hrd, rfl⟩ := hr
    exact ⟨anil_ok ho hv hrd, fits_rd hrd⟩
  case h_8 t x f ho =>
    simp only [Option.map_eq_some_iff] at hr
    obtain ⟨v, hv, rfl⟩ := hr
    exact ⟨afield_ok ho hv, fits_pure⟩
  case h_9 x i ho =>
    simp only [Option.map_eq_some_iff] at hr
    obtain ⟨v, hv, rfl⟩ := hr
    exact ⟨aextract_ok ho hv, fits_pure⟩
  case h_10 t x f ho =>
    simp only [Option.bind_eq_some_iff, Option.map_eq_some_iff] at hr
    obtain ⟨v, hv, rd, hrd, rfl⟩ := hr
    exact ⟨afaddr_ok ho hv hrd, fits_rd hrd⟩
  case h_11 t x y ho =>
    split at hr
    · rename_i k n hy
      simp only [Option.bind_eq_some_iff, Option.map_eq_some_iff] at hr
      obtain ⟨v, hv, rd, hrd, rfl⟩ := hr
      exact ⟨aindex_ok ho hy hv hrd, fits_rd hrd⟩
    · cases hr
  case h_12 t x lo hi mx ho =>
    simp only [Option.bind_eq_some_iff, Option.map_eq_some_iff] at hr
    obtain ⟨l, hl, hh, hhh, mm, hmm, v, hv, rd, hrd, rfl⟩ := hr
    exact ⟨aslice_ok ho hl hhh hmm hv hrd, fits_rd hrd⟩
  case h_13 t x ho => exact ⟨aload_ok ho hr, fits_load hr⟩
  case h_14 t x y ho => exact ⟨astore_ok ho hr, fits_store hr⟩
  case h_15 t ho =>
    refine ⟨aalloc_ok ho hr, ?_⟩
    simp only [aalloc, Option.map_eq_some_iff] at hr
    obtain ⟨z, hz, rfl⟩ := hr
    exact ⟨by simp [ofL_len], ⟨Nat.le_refl _, trivial⟩⟩
  case h_16 t x ho =>
    refine ⟨abox_ok ho hr, ?_⟩
    unfold abox at hr
    split at hr
    · cases hr; exact ⟨by simp [ofL_len], ⟨Nat.le_refl _, trivial⟩⟩
    · cases hr
  case h_17 t parts ho =>
    simp only [Option.map_eq_some_iff] at hr
    obtain ⟨v, hv, rfl⟩ := hr
    exact ⟨abuild_ok ho hv, fits_pure⟩
  case h_18 t n parts ho =>
    refine ⟨abslice_ok ho hr, ?_⟩
    unfold abslice at hr
    split at hr
    · split at hr
      · split at hr
        · simp only [forceO_eq, Option.map_eq_some_iff] at hr
          obtain ⟨flat, hflat, rfl⟩ := hr
          exact ⟨by simp [ofL_len], ⟨Nat.le_refl _, trivial⟩⟩
        · cases hr
      · cases hr
    · cases hr
  case h_19 t x y ho =>
    split at hr
    · rename_i k l k' l' h1 h2
      split at hr
      · rename_i he
        subst he
        refine ⟨amake_ok ho h1 h2 hr, ?_⟩
        unfold amake at hr
        split at hr
        · split at hr
          · split at hr
            · cases hr; exact ⟨by simp [ofL_len], ⟨Nat.le_refl _, trivial⟩⟩
            · cases hr
          · cases hr
        · cases hr
      · cases hr
    · cases hr
  case h_20 f first caps ho =>
    split at hr
    · rename_i hf
      cases hr
      have : first = #[] := by
        have : first.toList = [] := List.eq_nil_of_length_eq_zero hf
        simpa using this
      subst this
      exact ⟨aclo_ok ho, fits_pure⟩
    · cases hr
  case h_21 c ho =>
    obtain ⟨callee, args, argTypes⟩ := c
    have ea : args = args.toList.toArray := by simp
    have et : argTypes = argTypes.toList.toArray := by simp
    simp only at hr
    split at hr
    · rename_i x t hargs htys
      rw [hargs] at ea
      rw [htys] at et
      subst ea et
      split at hr
      · rename_i e he
        simp only [Option.bind_eq_some_iff, Option.map_eq_some_iff] at hr
        obtain ⟨n, hn, rd, hrd, rfl⟩ := hr
        exact ⟨alen_ok ho he hn hrd, fits_rd hrd⟩
      · cases hr
    · rename_i x y t t' hargs htys
      rw [hargs] at ea
      rw [htys] at et
      subst ea et
      split at hr
      · rename_i he
        subst he
        simp only [Option.bind_eq_some_iff] at hr
        obtain ⟨rd, hrd, hr⟩ := hr
        exact ⟨aapp_ok ho hrd hr, fits_app hrd hr⟩
      · cases hr
    · simp only [Option.map_eq_some_iff] at hr
      obtain ⟨v, hv, rfl⟩ := hr
      refine ⟨OpL.pure fun m hh w a rel hop => ?_, fits_pure⟩
      obtain ⟨u, h1, h2⟩ := amm_run (m := m) (h := hh) (w := w) false (args.toList.map (ae sl)) (args.toList.map a.eval) v hv (by simp) (fun i c v hc hv => by
        simp only [List.getElem?_map, Option.map_eq_some_iff] at hc hv
        obtain ⟨x, hx, rfl⟩ := hc
        obtain ⟨y, hy, rfl⟩ := hv
        rw [hx] at hy
        cases hy
        exact hop x (by simp only [ho, Op.operands, Call.operands]; simp; exact Array.mem_of_getElem? (by simpa using hx)))
      refine ⟨u, ?_, h2⟩
      have : (Builtin.min_ argTypes o.type (args.map a.eval)).run P w = .ok u w := by
        unfold Builtin.min_
        have e : (args.map a.eval).toList = args.toList.map a.eval := by simp
        rw [e]
        cases hl : args.toList.map a.eval with
        | nil => rw [hl] at h1; simp at h1
        | cons x rest => rw [hl] at h1; simpa using h1
      simp [execOp, ho, resolve, invoke, builtin, this]
    · simp only [Option.map_eq_some_iff] at hr
      obtain ⟨v, hv, rfl⟩ := hr
      refine ⟨OpL.pure fun m hh w a rel hop => ?_, fits_pure⟩
      obtain ⟨u, h1, h2⟩ := amm_run (m := m) (h := hh) (w := w) true (args.toList.map (ae sl)) (args.toList.map a.eval) v hv (by simp) (fun i c v hc hv => by
        simp only [List.getElem?_map, Option.map_eq_some_iff] at hc hv
        obtain ⟨x, hx, rfl⟩ := hc
        obtain ⟨y, hy, rfl⟩ := hv
        rw [hx] at hy
        cases hy
        exact hop x (by simp only [ho, Op.operands, Call.operands]; simp; exact Array.mem_of_getElem? (by simpa using hx)))
      refine ⟨u, ?_, h2⟩
      have : (Builtin.max_ argTypes o.type (args.map a.eval)).run P w = .ok u w := by
        unfold Builtin.max_
        have e : (args.map a.eval).toList = args.toList.map a.eval := by simp
        rw [e]
        cases hl : args.toList.map a.eval with
        | nil => rw [hl] at h1; simp at h1
        | cons x rest => rw [hl] at h1; simpa using h1
      simp [execOp, ho, resolve, invoke, builtin, this]
    · cases hr
  case h_22 => cases hr
end
end Go.Proofs.Ytjmjnndmpeeppaa

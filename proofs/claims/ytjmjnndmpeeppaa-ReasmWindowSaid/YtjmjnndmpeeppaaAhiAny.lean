/- A region of operations on data in whatever order is drawn. No condition. -/
import Derived.Test.YtjmjnndmpeeppaaAhiReg
namespace Go.Proofs.Ytjmjnndmpeeppaa
open Go.RowKit
set_option linter.unusedVariables false
set_option linter.unusedSimpArgs false

section
variable {P : Program}

/-- the operations that come before, as bits -/
def bef1 (acc : List Nat) (o : Oper) : Nat := o.after.toList.foldl (fun s e => if Region.binds .any e then s ||| (2 ^ e.on) ||| acc.getD e.on 0 else s) 0
def befs (ops : List Oper) : List Nat := ops.foldl (fun acc o => acc ++ [bef1 acc o]) []

def depsIn (L : Nat → Bool) (o : Oper) : Prop := ∀ e ∈ o.after, Region.binds .any e = true → L e.on = true
def Closed (ops : List Oper) (L : Nat → Bool) : Prop := ∀ k o, ops[k]? = some o → L k = true → depsIn L o

theorem testBit_fold (acc : List Nat) (i : Nat) : ∀ (es : List Edge) (s : Nat), (es.foldl (fun s e => if Region.binds .any e then s ||| (2 ^ e.on) ||| acc.getD e.on 0 else s) s).testBit i = true →
    s.testBit i = true ∨ ∃ e ∈ es, Region.binds .any e = true ∧ (i = e.on ∨ (acc.getD e.on 0).testBit i = true)
  | [], s, h => .inl h
  | e :: es, s, h => by
    rw [List.foldl_cons] at h
    rcases testBit_fold acc i es _ h with h | ⟨e', he, hb, hi⟩
    · split at h
      · rename_i hb
        simp only [Nat.testBit_or, Bool.or_eq_true] at h
        rcases h with (h | h) | h
        · exact .inl h
        · refine .inr ⟨e, by simp, hb, .inl ?_⟩
          rw [Nat.testBit_two_pow] at h
          exact (by simpa using h : e.on = i).symm
        · exact .inr ⟨e, by simp, hb, .inr h⟩
      · exact .inl h
    · exact .inr ⟨e', by simp [he], hb, hi⟩

theorem befs_ok {ops : List Oper} {L : Nat → Bool} (hL : Closed ops L) : ∀ (k : Nat) (o : Oper) (i : Nat), ops[k]? = some o → depsIn L o → ((befs ops).getD k 0).testBit i = true → L i = true := by
  -- a beginning of the list
  have key : ∀ n, n ≤ ops.length → (befs (ops.take n)).length = n ∧ ∀ (k : Nat) (o : Oper) (i : Nat), k < n → ops[k]? = some o → depsIn L o → ((befs (ops.take n)).getD k 0).testBit i = true → L i = true := by
    intro n
    induction n with
    | zero => intro _; exact ⟨by simp [befs], by omega⟩
    | succ n ih =>
      intro hn
      obtain ⟨hl, hk⟩ := ih (by omega)
      have e0 : ops.take (n + 1) = ops.take n ++ [ops[n]] := List.take_succ_eq_append_getElem (by omega)
      have e1 : befs (ops.take (n + 1)) = befs (ops.take n) ++ [bef1 (befs (ops.take n)) ops[n]] := by
        unfold befs
        rw [e0, List.foldl_append]; rfl
      refine ⟨by rw [e1]; simp [hl], fun k o' i hlt ho hd hb => ?_⟩
      rw [e1] at hb
      by_cases hlt : k < n
      · have : (befs (ops.take n) ++ [bef1 (befs (ops.take n)) ops[n]]).getD k 0 = (befs (ops.take n)).getD k 0 := by
          simp only [List.getD_eq_getElem?_getD]
          rw [List.getElem?_append_left (by omega)]
        rw [this] at hb
        exact hk k o' i hlt ho hd hb
      · have hk0 : k = n := by omega
        subst hk0
        have ho' : ops[k]? = some ops[k] := List.getElem?_eq_getElem (by omega)
        rw [ho'] at ho
        cases ho
        have : (befs (ops.take k) ++ [bef1 (befs (ops.take k)) ops[k]]).getD k 0 = bef1 (befs (ops.take k)) ops[k] := by
          simp only [List.getD_eq_getElem?_getD]
          rw [List.getElem?_append_right (by omega), hl]; simp
        rw [this] at hb
        rcases testBit_fold _ i _ _ hb with h | ⟨e, hm, hbi, h | h⟩
        · simp at h
        · rw [h]; exact hd e (by simpa using hm) hbi
        · have hLe : L e.on = true := hd e (by simpa using hm) hbi
          by_cases hlt2 : e.on < k
          · have hpe : ops[e.on]? = some ops[e.on] := List.getElem?_eq_getElem (by omega)
            exact hk e.on ops[e.on] i hlt2 hpe (hL e.on ops[e.on] hpe hLe) h
          · rw [List.getD_eq_getElem?_getD, List.getElem?_eq_none (by omega)] at h
            simp at h
  intro k o i ho hd hb
  have hkl : k < ops.length := (List.getElem?_eq_some_iff.1 ho).1
  have := (key ops.length (Nat.le_refl _)).2 k o i hkl ho hd
  rw [List.take_length] at this
  exact this hb

/-- may the two touch one thing? -/
def touch (all : List Oper) (o o' : Oper) (p p' : List Nat × List Nat) : Bool :=
  (match o.dst with | some d => (o'.looksAt all.toArray).contains d || o'.dst == some d | none => false) ||
  (match o'.dst with | some d => (o.looksAt all.toArray).contains d | none => false) ||
  p.2.any (fun x => p'.1.contains x || p'.2.contains x) || p'.2.any (fun x => p.1.contains x)

/-- Whatever touches one thing comes in one order. -/
def orderOk (ops : List Oper) (ids : List (List Nat × List Nat)) : Bool :=
  let bs := befs ops
  (List.range ops.length).all fun k =>
    (ops.getD k default).after.all (fun e => !Region.binds .any e || decide (e.on < k)) &&
    (List.range k).all fun i => !touch ops (ops.getD i default) (ops.getD k default) (ids.getD i ([], [])) (ids.getD k ([], [])) || (bs.getD k 0).testBit i

theorem upds_out {h : Hp} : ∀ {T : List (Nat × Own)} {x : Nat}, x ∉ T.map (·.1) → h.upds T x = h x
  | [], _, _ => rfl
  | p :: T, x, hx => by
    simp only [List.map_cons, List.mem_cons, not_or] at hx
    show (h.upd p.1 p.2).upds T x = h x
    rw [upds_out hx.2, Hp.upd_ne _ _ hx.1]
theorem upds_in : ∀ {T : List (Nat × Own)} {h h' : Hp} {x : Nat}, x ∈ T.map (·.1) → h.upds T x = h'.upds T x
  | [], _, _, _, hx => by simp at hx
  | p :: T, h, h', x, hx => by
    show (h.upd p.1 p.2).upds T x = (h'.upd p.1 p.2).upds T x
    by_cases hm : x ∈ T.map (·.1)
    · exact upds_in hm
    · rw [upds_out hm, upds_out hm]
      simp only [List.map_cons, List.mem_cons] at hx
      rcases hx with rfl | hx
      · rw [Hp.upd_same, Hp.upd_same]
      · exact absurd hx hm

section sets
variable (all : List Oper) (ps : List PStep) (sl0 : List AV) (h0 : Hp)
/-- the slots behind those of the first i operations that are listed -/
def slotAt (L : Nat → Bool) : Nat → List AV
  | 0 => sl0
  | i + 1 => if L i then aput (slotAt L i) (all.getD i default).dst (ps.getD i default).val else slotAt L i
def heapAt (L : Nat → Bool) : Nat → Hp
  | 0 => h0
  | i + 1 => if L i && (ps.getD i default).w then (heapAt L i).upds (ps.getD i default).T else heapAt L i
end sets

theorem slotAt_len {all : List Oper} {ps : List PStep} {sl0 : List AV} {L : Nat → Bool} : ∀ i, (slotAt all ps sl0 L i).length = sl0.length
  | 0 => rfl
  | i + 1 => by
    rw [slotAt]
    split
    · cases h : (all.getD i default).dst <;> simp [aput, slotAt_len i]
    · exact slotAt_len i

theorem aput_get {sl : List AV} {d : Option Tmp} {v : AV} {t : Nat} (h : d ≠ some t) : (aput sl d v)[t]? = sl[t]? := by
  cases d with
  | none => rfl
  | some d =>
    have : d ≠ t := fun e => h (by rw [e])
    simp [aput, List.getElem?_set_ne this]

/-- the plan gives the slots and names of the text's order -/
theorem Plan.at {all : List Oper} : ∀ {rest : List Oper} {sl : List AV} {h : Hp} {ps : List PStep} {sl' : List AV} {h' : Hp}, Plan P all rest sl h ps sl' h' →
    ps.length = rest.length ∧ slotAt rest ps sl (fun _ => true) rest.length = sl' ∧ heapAt ps h (fun _ => true) rest.length = h' ∧
      ∀ i o, rest[i]? = some o → awanted all o (slotAt rest ps sl (fun _ => true) i) = some (ps.getD i default).w ∧
        ((ps.getD i default).w = true → OpW P o (slotAt rest ps sl (fun _ => true) i) (ps.getD i default).rd (ps.getD i default).T (ps.getD i default).av ∧ ∀ q ∈ (ps.getD i default).rd, heapAt ps h (fun _ => true) i q.1 = q.2) := by
  intro rest sl h ps sl' h' hp
  induction hp with
  | nil sl h => exact ⟨rfl, rfl, rfl, by simp⟩
  | cons o rest sl h p ps sl' h' hw hok hrest ih =>
    obtain ⟨i1, i2, i3, i4⟩ := ih
    have s1 : ∀ i, slotAt (o :: rest) (p :: ps) sl (fun _ => true) (i + 1) = slotAt rest ps (aput sl o.dst p.val) (fun _ => true) i := by
      intro i
      induction i with
      | zero => simp [slotAt]
      | succ i ih => rw [slotAt, ih]; simp [slotAt]
    have s2 : ∀ i, heapAt (p :: ps) h (fun _ => true) (i + 1) = heapAt ps (if p.w then h.upds p.T else h) (fun _ => true) i := by
      intro i
      induction i with
      | zero => simp [heapAt]
      | succ i ih => rw [heapAt, ih]; simp [heapAt]
    refine ⟨by simp [i1], ?_, ?_, ?_⟩
    · rw [List.length_cons, s1]; exact i2
    · rw [List.length_cons, s2]; exact i3
    · intro i o' ho
      cases i with
      | zero =>
        simp at ho
        subst ho
        exact ⟨hw, hok⟩
      | succ i =>
        rw [s1, s2]
        exact i4 i o' (by simpa using ho)

theorem touch_dst {all : List Oper} {o o' : Oper} {p p' : List Nat × List Nat} {d : Tmp} (h : o.dst = some d) (h' : d ∈ o'.looksAt all.toArray ∨ o'.dst = some d) : touch all o o' p p' = true := by
  unfold touch
  rw [h]
  rcases h' with h' | h' <;> simp [h']
theorem touch_dst' {all : List Oper} {o o' : Oper} {p p' : List Nat × List Nat} {d : Tmp} (h : o'.dst = some d) (h' : d ∈ o.looksAt all.toArray) : touch all o o' p p' = true := by
  unfold touch
  rw [h]
  simp [h']
theorem touch_id {all : List Oper} {o o' : Oper} {p p' : List Nat × List Nat} {x : Nat} (h : x ∈ p.2) (h' : x ∈ p'.1 ∨ x ∈ p'.2) : touch all o o' p p' = true := by
  unfold touch
  have : (p.2.any fun x => p'.1.contains x || p'.2.contains x) = true := List.any_eq_true.2 ⟨x, h, by simpa using h'⟩
  simp only [this, Bool.or_true, Bool.true_or]
theorem touch_id' {all : List Oper} {o o' : Oper} {p p' : List Nat × List Nat} {x : Nat} (h : x ∈ p'.2) (h' : x ∈ p.1) : touch all o o' p p' = true := by
  unfold touch
  have : (p'.2.any fun x => p.1.contains x) = true := List.any_eq_true.2 ⟨x, h, by simpa using h'⟩
  simp only [this, Bool.or_true]

theorem ready_mem {ops : List Oper} {listed : Array Bool} {i : Nat} (hs : listed.size = ops.length) (h : i ∈ Region.ready .any ops.toArray listed) : ∃ o, ops[i]? = some o ∧ listed.getD i false = false ∧ depsIn (fun j => listed.getD j false) o := by
  simp only [Region.ready, List.mem_filter, List.mem_range, Bool.and_eq_true, List.getElem?_toArray, List.size_toArray] at h
  obtain ⟨hlt, h1, h2⟩ := h
  have ho : ops[i]? = some ops[i] := List.getElem?_eq_getElem hlt
  rw [ho] at h2
  refine ⟨ops[i], ho, ?_, fun e he hb => ?_⟩
  · have : i < listed.size := by omega
    simp [Array.getD, this] at h1 ⊢
    exact h1
  · simp only [Option.map_some, Option.getD_some, Array.all_eq_true] at h2
    obtain ⟨q, hq, rfl⟩ := Array.mem_iff_getElem.1 he
    have := h2 q hq
    rw [hb] at this
    simpa using this

theorem all_range {p : Nat → Bool} {n k : Nat} (h : (List.range n).all p = true) (hk : k < n) : p k = true := List.all_eq_true.1 h k (List.mem_range.2 hk)

/-- Whatever order is drawn. -/
theorem Plan.any {all : List Oper} {Q : Exit → Act → World → Prop} {sl0 : List AV} {h0 : Hp} {ps : List PStep} {sl' : List AV} {h' : Hp} (hp : Plan P all all sl0 h0 ps sl' h') (hok : orderOk all (ps.map fun p => (p.rids, p.wids)) = true)
    {m0 : Nm} {w0 : World} (rel0 : Rel m0 h0 w0) {a0 : Act} (st0 : StR m0 sl0 h0 a0 w0) (hQ : ∀ m' a' w', StR m' sl' h' a' w' → Ev m0 h0 w0 m' h' w' → Q .normal a' w') {wd : World} (hd : wd.heap = w0.heap) (d1 : wd.os = w0.os) (d2 : wd.tape = w0.tape) (d3 : wd.output = w0.output) :
    wpAny P .any all.toArray Q all.length (Array.replicate all.length false) a0 wd := by
  obtain ⟨pl, pe1, pe2, pi⟩ := hp.at
  have idsAt : ∀ i, i < all.length → (ps.map fun p => (p.rids, p.wids)).getD i ([], []) = ((ps.getD i default).rids, (ps.getD i default).wids) := fun i hi => by
    have : i < ps.length := by omega
    simp [List.getD, this]
  have opAt : ∀ i o, all[i]? = some o → all.getD i default = o := fun i o ho => by simp [List.getD, ho]
  -- what the check says
  have chk : ∀ i k oi ok, i < k → all[i]? = some oi → all[k]? = some ok → touch all oi ok ((ps.getD i default).rids, (ps.getD i default).wids) ((ps.getD k default).rids, (ps.getD k default).wids) = true → ((befs all).getD k 0).testBit i = true := by
    intro i k oi ok hik hi hk ht
    have hkl : k < all.length := (List.getElem?_eq_some_iff.1 hk).1
    have h1 := all_range hok hkl
    simp only [Bool.and_eq_true] at h1
    have h2 := all_range h1.2 hik
    rw [opAt i oi hi, opAt k ok hk, idsAt i (by omega), idsAt k hkl, ht] at h2
    simpa using h2
  have lower : ∀ k o, all[k]? = some o → ∀ e ∈ o.after, Region.binds .any e = true → e.on < k := by
    intro k o hk e he hb
    have hkl : k < all.length := (List.getElem?_eq_some_iff.1 hk).1
    have h1 := all_range hok hkl
    simp only [Bool.and_eq_true] at h1
    have h2 := h1.1
    rw [opAt k o hk, Array.all_eq_true] at h2
    obtain ⟨q, hq, rfl⟩ := Array.mem_iff_getElem.1 he
    have := h2 q hq
    simpa [hb] using this
  -- the step
  have main : ∀ (fuel : Nat) (listed : Array Bool) (a : Act) (w : World) (m : Nm), listed.size = all.length → ((List.range all.length).filter fun i => !listed.getD i false).length = fuel → Closed all (fun j => listed.getD j false) →
      StR m (slotAt all ps sl0 (fun j => listed.getD j false) all.length) (heapAt ps h0 (fun j => listed.getD j false) all.length) a w → Ev m0 h0 w0 m (heapAt ps h0 (fun j => listed.getD j false) all.length) w → wpAny P .any all.toArray Q fuel listed a w := by
    intro fuel
    induction fuel with
    | zero =>
      intro listed a w m hs hf hc st ev
      have hall : ∀ i, i < all.length → listed.getD i false = true := fun i hi => by
        have h0 := List.length_eq_zero_iff.1 hf
        rw [List.filter_eq_nil_iff] at h0
        have := h0 i (List.mem_range.2 hi)
        simpa using this
      have es : ∀ i, i ≤ all.length → slotAt all ps sl0 (fun j => listed.getD j false) i = slotAt all ps sl0 (fun _ => true) i ∧ heapAt ps h0 (fun j => listed.getD j false) i = heapAt ps h0 (fun _ => true) i := by
        intro i
        induction i with
        | zero => intro _; exact ⟨rfl, rfl⟩
        | succ i ih =>
          intro hi
          obtain ⟨e1, e2⟩ := ih (by omega)
          have hi1 : listed.getD i false = true := hall i (by omega)
          constructor
          · show (if listed.getD i false then _ else _) = (if true then _ else _)
            rw [hi1, e1]
          · show (if listed.getD i false && _ then _ else _) = (if true && _ then _ else _)
            rw [hi1, e2]
      obtain ⟨e1, e2⟩ := es all.length (Nat.le_refl _)
      rw [e1, e2, pe1, pe2] at st
      rw [e2, pe2] at ev
      refine ⟨?_, hQ m a w st ev⟩
      refine List.eq_nil_iff_forall_not_mem.2 fun i hi => ?_
      obtain ⟨o, ho, hl, _⟩ := ready_mem hs hi
      have := hall i (List.getElem?_eq_some_iff.1 ho).1
      rw [this] at hl; cases hl
    | succ fuel ih =>
      intro listed a w m hs hf hc st ev
      refine ⟨fun hnil => ?_, fun i hi => ?_⟩
      · -- somebody is not listed: the first of them may come up
        exfalso
        have hex : ∃ i, i < all.length ∧ listed.getD i false = false := by
          have hpos : 0 < ((List.range all.length).filter fun i => !listed.getD i false).length := by omega
          obtain ⟨i, hi⟩ := List.exists_mem_of_length_pos hpos
          simp only [List.mem_filter, List.mem_range] at hi
          exact ⟨i, hi.1, by simpa using hi.2⟩
        have hmin : ∃ i, i < all.length ∧ listed.getD i false = false ∧ ∀ j, j < i → listed.getD j false = true := by
          obtain ⟨i, hi⟩ := hex
          induction i using Nat.strongRecOn with
          | _ i ihs =>
            by_cases hj : ∃ j, j < i ∧ listed.getD j false = false
            · obtain ⟨j, hji, hjl⟩ := hj
              exact ihs j hji ⟨by omega, hjl⟩
            · refine ⟨i, hi.1, hi.2, fun j hji => ?_⟩
              cases hb : listed.getD j false with
              | true => rfl
              | false => exact absurd ⟨j, hji, hb⟩ hj
        obtain ⟨i, hi, hl, hlow⟩ := hmin
        have ho : all[i]? = some all[i] := List.getElem?_eq_getElem hi
        have : i ∈ Region.ready .any all.toArray listed := by
          simp only [Region.ready, List.mem_filter, List.mem_range, Bool.and_eq_true, List.getElem?_toArray, List.size_toArray]
          refine ⟨hi, ?_, ?_⟩
          · have : i < listed.size := by omega
            simp [Array.getD, this] at hl ⊢; exact hl
          · rw [ho]
            simp only [Option.map_some, Option.getD_some, Array.all_eq_true]
            intro q hq
            cases hb : Region.binds .any all[i].after[q] with
            | false => simp
            | true => simp only [Bool.not_true, Bool.false_or]; exact hlow _ (lower i _ ho _ (Array.getElem_mem hq) hb)
        rw [hnil] at this
        cases this
      · obtain ⟨o, ho, hl, hdeps⟩ := ready_mem hs hi
        have hil : i < all.length := (List.getElem?_eq_some_iff.1 ho).1
        obtain ⟨hw, hop⟩ := pi i o ho
        generalize hL : (fun j => listed.getD j false) = L at *
        have hLi : L i = false := by rw [← hL]; exact hl
        -- nobody behind it who touches what it touches is listed; everybody ahead of it who does is
        have behind : ∀ k ok, i < k → all[k]? = some ok → L k = true → touch all o ok ((ps.getD i default).rids, (ps.getD i default).wids) ((ps.getD k default).rids, (ps.getD k default).wids) = false := by
          intro k ok hik hk hLk
          cases ht : touch all o ok ((ps.getD i default).rids, (ps.getD i default).wids) ((ps.getD k default).rids, (ps.getD k default).wids) with
          | false => rfl
          | true =>
            have := befs_ok hc k ok i hk (hc k ok hk hLk) (chk i k o ok hik ho hk ht)
            rw [hLi] at this; cases this
        have ahead : ∀ k ok, k < i → all[k]? = some ok → touch all ok o ((ps.getD k default).rids, (ps.getD k default).wids) ((ps.getD i default).rids, (ps.getD i default).wids) = true → L k = true := by
          intro k ok hki hk ht
          exact befs_ok hc i o k ho hdeps (chk k i ok o hki hk ho ht)
        have some_of : ∀ k, k < all.length → ∃ ok, all[k]? = some ok := fun k hk => ⟨_, List.getElem?_eq_getElem hk⟩
        -- (F1) a slot that it looks at, or writes, reads as in the text's order
        have low_slot : ∀ t, t ∈ o.looksAt all.toArray → ∀ k, k ≤ i → (slotAt all ps sl0 L k)[t]? = (slotAt all ps sl0 (fun _ => true) k)[t]? := by
          intro t ht k
          induction k with
          | zero => intro _; rfl
          | succ k ihk =>
            intro hk
            have e := ihk (by omega)
            obtain ⟨ok, hok'⟩ := some_of k (by omega)
            simp only [slotAt, opAt k ok hok', if_true]
            by_cases hdst : ok.dst = some t
            · rw [ahead k ok (by omega) hok' (touch_dst hdst (.inl ht)), if_pos rfl]
              have l1 := slotAt_len (all := all) (ps := ps) (sl0 := sl0) (L := L) k
              have l2 := slotAt_len (all := all) (ps := ps) (sl0 := sl0) (L := fun _ => true) k
              rw [hdst]
              simp [aput, List.getElem?_set, l1, l2]
            · rw [aput_get hdst]
              split
              · rw [aput_get hdst]; exact e
              · exact e
        have high_slot : ∀ t, t ∈ o.looksAt all.toArray → ∀ d, i + d ≤ all.length → (slotAt all ps sl0 L (i + d))[t]? = (slotAt all ps sl0 L i)[t]? := by
          intro t ht d
          induction d with
          | zero => intro _; rfl
          | succ d ihd =>
            intro hk
            have e := ihd (by omega)
            obtain ⟨ok, hok'⟩ := some_of (i + d) (by omega)
            rw [show i + (d + 1) = (i + d) + 1 by omega]
            simp only [slotAt, opAt (i + d) ok hok']
            cases hLk : L (i + d) with
            | false => rw [if_neg (by simp)]; exact e
            | true =>
              rw [if_pos rfl]
              have hne : d ≠ 0 := by rintro rfl; simp only [Nat.add_zero] at hLk; rw [hLi] at hLk; cases hLk
              have hdst : ok.dst ≠ some t := fun hd => by
                have := behind (i + d) ok (by omega) hok' hLk
                rw [touch_dst' hd ht] at this; cases this
              rw [aput_get hdst]; exact e
        have F1 : ∀ t, t ∈ o.looksAt all.toArray → (slotAt all ps sl0 L all.length).getD t (.val undef) = (slotAt all ps sl0 (fun _ => true) i).getD t (.val undef) := by
          intro t ht
          have h1 := high_slot t ht (all.length - i) (by omega)
          rw [show i + (all.length - i) = all.length by omega] at h1
          simp only [List.getD_eq_getElem?_getD, h1, low_slot t ht i (Nat.le_refl _)]
        -- (F2) a name that it asks of, or makes, stands as in the text's order
        have wid : ∀ k, (ps.getD k default).w = true → ∀ x, x ∈ (ps.getD k default).T.map (·.1) → x ∈ (ps.getD k default).wids := fun k hk x hx => by simp only [PStep.wids, hk, if_true]; exact hx
        have low_heap : ∀ x, (x ∈ (ps.getD i default).rids ∨ x ∈ (ps.getD i default).wids) → ∀ k, k ≤ i → heapAt ps h0 L k x = heapAt ps h0 (fun _ => true) k x := by
          intro x hx k
          induction k with
          | zero => intro _; rfl
          | succ k ihk =>
            intro hk
            have e := ihk (by omega)
            obtain ⟨ok, hok'⟩ := some_of k (by omega)
            simp only [heapAt, Bool.true_and]
            cases hwk : (ps.getD k default).w with
            | false => simp only [Bool.and_false, Bool.false_eq_true, if_false]; exact e
            | true =>
              simp only [Bool.and_true, if_true]
              by_cases hm : x ∈ (ps.getD k default).T.map (·.1)
              · rw [ahead k ok (by omega) hok' (touch_id (wid k hwk x hm) hx), if_pos rfl]
                exact upds_in hm
              · rw [upds_out hm]
                split
                · rw [upds_out hm]; exact e
                · exact e
        have high_heap : ∀ x, (x ∈ (ps.getD i default).rids ∨ x ∈ (ps.getD i default).wids) → ∀ d, i + d ≤ all.length → heapAt ps h0 L (i + d) x = heapAt ps h0 L i x := by
          intro x hx d
          induction d with
          | zero => intro _; rfl
          | succ d ihd =>
            intro hk
            have e := ihd (by omega)
            obtain ⟨ok, hok'⟩ := some_of (i + d) (by omega)
            rw [show i + (d + 1) = (i + d) + 1 by omega]
            simp only [heapAt]
            cases hLk : L (i + d) with
            | false => simp only [Bool.false_and, Bool.false_eq_true, if_false]; exact e
            | true =>
              have hne : d ≠ 0 := by rintro rfl; simp only [Nat.add_zero] at hLk; rw [hLi] at hLk; cases hLk
              cases hwk : (ps.getD (i + d) default).w with
              | false => simp only [Bool.and_false, Bool.false_eq_true, if_false]; exact e
              | true =>
                simp only [Bool.and_true, if_true]
                have hm : x ∉ (ps.getD (i + d) default).T.map (·.1) := fun hm => by
                  have := behind (i + d) ok (by omega) hok' hLk
                  rcases hx with hx | hx
                  · rw [touch_id' (wid _ hwk x hm) hx] at this; cases this
                  · rw [touch_id hx (.inr (wid _ hwk x hm))] at this; cases this
                rw [upds_out hm]; exact e
        have F2 : ∀ x, (x ∈ (ps.getD i default).rids ∨ x ∈ (ps.getD i default).wids) → heapAt ps h0 L all.length x = heapAt ps h0 (fun _ => true) i x := by
          intro x hx
          have h1 := high_heap x hx (all.length - i) (by omega)
          rw [show i + (all.length - i) = all.length by omega] at h1
          rw [h1]
          exact low_heap x hx i (Nat.le_refl _)
        -- the list with it
        have hL' : (fun j => (listed.setIfInBounds i true).getD j false) = fun j => if j = i then true else L j := by
          funext j
          have hji : i < listed.size := by omega
          by_cases e : j = i
          · subst e; simp [Array.getD, hji]
          · rw [if_neg e, ← hL]
            simp only [Array.getD_eq_getD_getElem?, Array.getElem?_setIfInBounds, if_neg (Ne.symm e)]
        generalize hL2 : (fun j => if j = i then true else L j) = L' at hL'
        have L'i : L' i = true := by rw [← hL2]; simp
        have L'ne : ∀ j, j ≠ i → L' j = L j := fun j hj => by rw [← hL2]; simp [hj]
        -- (F3) the slots behind it
        have slow : ∀ k, k ≤ i → slotAt all ps sl0 L' k = slotAt all ps sl0 L k := by
          intro k
          induction k with
          | zero => intro _; rfl
          | succ k ihk => intro hk; simp only [slotAt, ihk (by omega), L'ne k (by omega)]
        have F3 : ∀ d, i + 1 + d ≤ all.length → slotAt all ps sl0 L' (i + 1 + d) = aput (slotAt all ps sl0 L (i + 1 + d)) o.dst (ps.getD i default).val := by
          intro d
          induction d with
          | zero =>
            intro _
            simp only [Nat.add_zero, slotAt, L'i, hLi, if_true, Bool.false_eq_true, if_false, opAt i o ho, slow i (Nat.le_refl _)]
          | succ d ihd =>
            intro hk
            have e := ihd (by omega)
            obtain ⟨ok, hok'⟩ := some_of (i + 1 + d) (by omega)
            rw [show i + 1 + (d + 1) = (i + 1 + d) + 1 by omega]
            simp only [slotAt, L'ne (i + 1 + d) (by omega), opAt (i + 1 + d) ok hok', e]
            cases hLk : L (i + 1 + d) with
            | false => simp
            | true =>
              simp only [if_true]
              -- two different slots
              have hne : ∀ t, o.dst = some t → ok.dst ≠ some t := fun t ht hd => by
                have := behind (i + 1 + d) ok (by omega) hok' hLk
                rw [touch_dst ht (.inr hd)] at this; cases this
              cases ho1 : o.dst with
              | none => simp [aput]
              | some t =>
                cases ho2 : ok.dst with
                | none => simp [aput]
                | some u =>
                  have : t ≠ u := fun e => hne t ho1 (by rw [ho2, e])
                  simp only [aput]
                  rw [List.set_comm _ _ this]
        have F3' : slotAt all ps sl0 L' all.length = aput (slotAt all ps sl0 L all.length) o.dst (ps.getD i default).val := by
          have := F3 (all.length - (i + 1)) (by omega)
          rw [show i + 1 + (all.length - (i + 1)) = all.length by omega] at this
          exact this
        -- (F4) the names behind it
        have hlow : ∀ k, k ≤ i → heapAt ps h0 L' k = heapAt ps h0 L k := by
          intro k
          induction k with
          | zero => intro _; rfl
          | succ k ihk => intro hk; simp only [heapAt, ihk (by omega), L'ne k (by omega)]
        have F4 : ∀ d, i + 1 + d ≤ all.length → heapAt ps h0 L' (i + 1 + d) = if (ps.getD i default).w then (heapAt ps h0 L (i + 1 + d)).upds (ps.getD i default).T else heapAt ps h0 L (i + 1 + d) := by
          intro d
          induction d with
          | zero =>
            intro _
            simp only [Nat.add_zero, heapAt, L'i, hLi, Bool.true_and, Bool.false_and, Bool.false_eq_true, if_false, hlow i (Nat.le_refl _)]
          | succ d ihd =>
            intro hk
            have e := ihd (by omega)
            obtain ⟨ok, hok'⟩ := some_of (i + 1 + d) (by omega)
            rw [show i + 1 + (d + 1) = (i + 1 + d) + 1 by omega]
            simp only [heapAt, L'ne (i + 1 + d) (by omega), e]
            cases hwi : (ps.getD i default).w with
            | false => simp
            | true =>
              simp only [if_true]
              cases hLk : L (i + 1 + d) with
              | false => simp
              | true =>
                cases hwk : (ps.getD (i + 1 + d) default).w with
                | false => simp
                | true =>
                  simp only [Bool.and_true, if_true]
                  funext x
                  by_cases hx : x ∈ (ps.getD i default).T.map (·.1)
                  · have hm : x ∉ (ps.getD (i + 1 + d) default).T.map (·.1) := fun hm => by
                      have := behind (i + 1 + d) ok (by omega) hok' hLk
                      rw [touch_id (wid i hwi x hx) (.inr (wid _ hwk x hm))] at this; cases this
                    rw [upds_out hm]
                    exact upds_in hx
                  · rw [upds_out hx]
                    by_cases hm : x ∈ (ps.getD (i + 1 + d) default).T.map (·.1)
                    · exact upds_in hm
                    · rw [upds_out hm, upds_out hm, upds_out hx]
        have F4' : heapAt ps h0 L' all.length = if (ps.getD i default).w then (heapAt ps h0 L all.length).upds (ps.getD i default).T else heapAt ps h0 L all.length := by
          have := F4 (all.length - (i + 1)) (by omega)
          rw [show i + 1 + (all.length - (i + 1)) = all.length by omega] at this
          exact this
        -- the operation
        have hclosed : Closed all L' := by
          intro k ok hk hLk e he hb
          by_cases hki : k = i
          · subst hki
            rw [ho] at hk; cases hk
            have h1 := hdeps e he hb
            by_cases hei : e.on = k
            · rw [hei]; exact L'i
            · rw [L'ne _ hei]; exact h1
          · rw [L'ne k hki] at hLk
            have h1 := hc k ok hk hLk e he hb
            by_cases hei : e.on = i
            · rw [hei]; exact L'i
            · rw [L'ne _ hei]; exact h1
        have hcount : ((List.range all.length).filter fun j => !(listed.setIfInBounds i true).getD j false).length = fuel := by
          have e1 : ((List.range all.length).filter fun j => !(listed.setIfInBounds i true).getD j false) = ((List.range all.length).filter fun j => !listed.getD j false).erase i := by
            have hnd : ((List.range all.length).filter fun j => !listed.getD j false).Nodup := List.Pairwise.filter _ List.nodup_range
            rw [hnd.erase_eq_filter, List.filter_filter]
            refine List.filter_congr fun j _ => ?_
            have h1 : (listed.setIfInBounds i true).getD j false = L' j := congrFun hL' j
            have h2 : listed.getD j false = L j := congrFun hL j
            rw [h1, h2]
            by_cases e : j = i
            · subst e; rw [L'i]; simp
            · rw [L'ne j e]; simp [e]
          rw [e1, List.length_erase_of_mem, hf]
          · rfl
          · simp only [List.mem_filter, List.mem_range]
            exact ⟨hil, by simpa using hl⟩
        have go : ∀ (m1 : Nm) (w1 : World) (v : Value), StR m1 (slotAt all ps sl0 L' all.length) (heapAt ps h0 L' all.length) (a.put o.dst v) w1 → Ev m0 h0 w0 m1 (heapAt ps h0 L' all.length) w1 →
            wpAny P .any all.toArray Q fuel (listed.setIfInBounds i true) (a.put o.dst v) w1 := fun m1 w1 v s1 e1 => by
          refine ih (listed.setIfInBounds i true) (a.put o.dst v) w1 m1 (by simpa using hs) hcount ?_ ?_ ?_
          · rw [hL']; exact hclosed
          · rw [hL']; exact s1
          · rw [hL']; exact e1
        have hopR : ∀ x ∈ o.op.operands, R m (heapAt ps h0 L all.length) w (ae (slotAt all ps sl0 (fun _ => true) i) x) (a.eval x) := by
          intro x hx
          have h1 := st.slots.eval x
          cases x with
          | tmp t =>
            have ht : t ∈ o.looksAt all.toArray := List.mem_append_left _ (List.mem_filterMap.2 ⟨.tmp t, by simpa using hx, rfl⟩)
            simp only [ae] at h1 ⊢
            rw [F1 t ht] at h1
            exact h1
          | const v => exact h1
          | global g => exact h1
          | func f => exact h1
        have hwant : Region.wanted o (yielded all.toArray a.tmps) = (ps.getD i default).w := awanted_ok hw fun t ht => by
          have := st.slots t
          rw [F1 t ht] at this
          exact this
        unfold wpOp
        simp only [List.getElem?_toArray, ho]
        rw [hwant]
        cases hwi : (ps.getD i default).w with
        | true =>
          rw [if_pos rfl]
          left
          obtain ⟨ow, ord⟩ := hop hwi
          refine ow (heapAt ps h0 L all.length) m w a _ Q (fun q hq => ?_) st.rel hopR fun v m1 w1 r1 e1 R1 => ?_
          · rw [F2 q.1 (.inl (by simp only [PStep.rids, hwi, if_true]; exact List.mem_map.2 ⟨q, hq, rfl⟩))]
            exact ord q hq
          · have sp := SlotsR.put st.rel e1 st.slots st.len (d := o.dst) R1
            have ehp : heapAt ps h0 L' all.length = (heapAt ps h0 L all.length).upds (ps.getD i default).T := by rw [F4', hwi]; rfl
            have esl : slotAt all ps sl0 L' all.length = aput (slotAt all ps sl0 L all.length) o.dst (ps.getD i default).av := by rw [F3']; simp only [PStep.val, hwi, if_true]
            refine go m1 w1 v ?_ ?_
            · rw [ehp, esl]; exact ⟨r1, sp.1, sp.2, by rw [put_defers]; exact st.defers⟩
            · rw [ehp]; exact ev.trans rel0 e1
        | false =>
          rw [if_neg (by simp)]
          have sp := SlotsR.put st.rel (Ev.refl m _ w) st.slots st.len (d := o.dst) (R.val (m := m) (h := heapAt ps h0 L all.length) (w := w) undef)
          have ehp : heapAt ps h0 L' all.length = heapAt ps h0 L all.length := by rw [F4', hwi]; rfl
          have esl : slotAt all ps sl0 L' all.length = aput (slotAt all ps sl0 L all.length) o.dst (.val undef) := by rw [F3']; simp only [PStep.val, hwi, Bool.false_eq_true, if_false]
          refine go m w undef ?_ ?_
          · rw [ehp, esl]; exact ⟨st.rel, sp.1, sp.2, by rw [put_defers]; exact st.defers⟩
          · rw [ehp]; exact ev
  have L0 : (fun j => (Array.replicate all.length false).getD j false) = fun _ => false := by
    funext j
    by_cases hj : j < all.length
    · simp [Array.getD, hj]
    · simp [Array.getD, hj]
  have s0 : ∀ n, slotAt all ps sl0 (fun _ => false) n = sl0 := fun n => by
    induction n with
    | zero => rfl
    | succ n ih => simp only [slotAt, ih, Bool.false_eq_true, if_false]
  have hp0 : ∀ n, heapAt ps h0 (fun _ => false) n = h0 := fun n => by
    induction n with
    | zero => rfl
    | succ n ih => simp only [heapAt, ih, Bool.false_and, Bool.false_eq_true, if_false]
  have evd : Ev m0 h0 w0 m0 h0 wd := Ev.world hd d1 d2 d3
  refine main all.length (Array.replicate all.length false) a0 wd m0 (by simp) ?_ ?_ ?_ ?_
  · have : ((List.range all.length).filter fun i => !(Array.replicate all.length false).getD i false) = List.range all.length := by
      refine List.filter_eq_self.2 fun i hi => ?_
      have : (Array.replicate all.length false).getD i false = false := congrFun L0 i
      rw [this]; rfl
    rw [this]; simp
  · rw [L0]
    intro k o hk h
    cases h
  · rw [L0, s0, hp0]
    exact ⟨rel0.world hd d1 d2 d3, fun t => (st0.slots t).mono rel0 evd, st0.len, st0.defers⟩
  · rw [L0, hp0]; exact evd
end
end Go.Proofs.Ytjmjnndmpeeppaa

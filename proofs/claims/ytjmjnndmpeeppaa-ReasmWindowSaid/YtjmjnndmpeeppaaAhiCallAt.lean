/- A call met by a contract in the caller's own names. No condition. -/
import Derived.Test.YtjmjnndmpeeppaaAhiCall
namespace Go.Proofs.Ytjmjnndmpeeppaa
open Go.RowKit
set_option linter.unusedVariables false
set_option linter.unusedSimpArgs false

theorem Ren.congr {q : Rn} {h h' : Hp} (hF : ∀ x y, q.F x y → h' x = h x) {c c' : AV} (hr : Ren q h c c') : Ren q h' c c' := by
  induction hr with
  | any c => exact .any c
  | val v => exact .val v
  | agg cs cs' hl hc ih => exact .agg cs cs' hl ih
  | tup cs cs' hl hc ih => exact .tup cs cs' hl ih
  | ptr b b' i j hb => exact .ptr b b' i j hb
  | sl b b' i n hb => exact .sl b b' i n hb
  | nil r r' sz hr => exact .nil r r' sz hr
  | vnil r sz => exact .vnil r sz
  | list r r' sz rows rows' hr hl hw hc ih => exact .list r r' sz rows rows' hr hl hw ih
  | glist r r' sz rows rows' hr hl hw hc ih => exact .glist r r' sz rows rows' hr hl hw ih
  | gl r sz rows c' hh ih => exact .gl r sz rows c' ih
  | vgnil r sz => exact .vgnil r sz
  | frzg b r i n k rows' hr hb hl hw hc ih => exact .frzg b r i n k rows' hr (by rw [hF b r hr]; exact hb) hl hw ih
  | frz b r i n k rows' hr hb hl hw hc ih => exact .frz b r i n k rows' hr (by rw [hF b r hr]; exact hb) hl hw ih
  | lptr r r' j row row' hr hl hc ih => exact .lptr r r' j row row' hr hl ih
  | clo f cs cs' hl hc ih => exact .clo f cs cs' hl ih
theorem RowsRen.congr {q : Rn} {h h' : Hp} (hF : ∀ x y, q.F x y → h' x = h x) {rows rows' : List (List AV)} (hr : RowsRen q h rows rows') : RowsRen q h' rows rows' :=
  ⟨hr.1, hr.2.1, fun i j row row' c c' a b d e => (hr.2.2 i j row row' c c' a b d e).congr hF⟩

theorem upds_map (f : Nat → Own) : ∀ (l : List Nat) (h : Hp) (y : Nat), h.upds (l.map fun x => (x, f x)) y = if y ∈ l then f y else h y
  | [], h, y => by simp [Hp.upds]
  | x :: l, h, y => by
    show (h.upd x (f x)).upds (l.map fun x => (x, f x)) y = _
    rw [upds_map f l]
    by_cases hy : y ∈ l
    · simp [hy]
    · by_cases e : y = x
      · subst e; simp [hy, Hp.upd_same]
      · simp [hy, e, Hp.upd_ne _ _ e]

/-- the caller's names as the callee's: own blocks, memory that stays, blocks that are lent -/
def qIn (own imm bor : List (Nat × Nat)) : Rn := ⟨fun x k => (k, x) ∈ own, fun x k => (k, x) ∈ imm, fun x k => (k, x) ∈ bor⟩
/-- the callee's names as the caller's, behind it -/
def qOut (L1 : Hp) (own imm bor fr : List (Nat × Nat)) : Rn :=
  ⟨fun k x => ((k, x) ∈ own ∨ (k, x) ∈ fr) ∧ ∃ b, L1 k = .live b, fun k x => ((k, x) ∈ fr ∧ L1 k = .uniq) ∨ ((k, x) ∈ imm ∧ (∀ x', (k, x') ∈ imm → x' = x) ∧ (∀ x', (k, x') ∉ bor) ∧ (L1 k).imm), fun _ _ => False⟩

/-- A contract fits a call. -/
structure CallFit (L0 L1 ho ho' : Hp) (own imm bor eat fr : List (Nat × Nat)) : Prop where
  q : RnOk ho L0 (qIn own imm bor)
  perm : ∀ k, (L0 k).imm → L1 k = L0 k ∨ (L0 k = .uniq ∧ L1 k = .dead)
  bor0 : ∀ k x, (k, x) ∈ bor → L0 k = .perm
  eat1 : ∀ k x, (k, x) ∈ eat → (k, x) ∈ imm ∧ L0 k = .uniq ∧ L1 k = .dead ∧ ho' x = .dead
  eat2 : ∀ k x, (k, x) ∈ imm → L0 k = .uniq → L1 k = .dead → (k, x) ∈ eat
  fr0 : ∀ k x, (k, x) ∈ fr → L0 k = .unused ∧ ho x = .unused
  fr1 : ∀ k k' x, (k, x) ∈ fr → (k', x) ∈ fr → k = k'
  fr2 : ∀ k x x', (k, x) ∈ fr → (k, x') ∈ fr → x = x'
  ownAft : ∀ k x, (k, x) ∈ own → (∃ k1 kx', L1 k = .live k1 ∧ ho' x = .live kx' ∧ kx'.sz = k1.sz ∧ kx'.elem = k1.elem ∧ RowsRen (qOut L1 own imm bor fr) L1 k1.rows kx'.rows) ∨ (L1 k = .dead ∧ ho' x = .dead)
  frAft : ∀ k x, (k, x) ∈ fr → (∃ k1 kx', L1 k = .live k1 ∧ ho' x = .live kx' ∧ kx'.sz = k1.sz ∧ kx'.elem = k1.elem ∧ RowsRen (qOut L1 own imm bor fr) L1 k1.rows kx'.rows) ∨ (L1 k = .uniq ∧ ho' x = .uniq)

section
variable {P : Program}

open Classical in
theorem ACall.of {f : FuncId} {args : List AV} {L0 L1 : List Own} {res : AV} (H : ACallL P f args L0 res L1) {ho ho' : Hp} {own imm bor eat fr : List (Nat × Nat)} (cf : CallFit (ofL L0) (ofL L1) ho ho' own imm bor eat fr) {aa : List AV} {res' : AV}
    (hargs : SlotsRen (qIn own imm bor) ho aa args) (hres : Ren (qOut (ofL L1) own imm bor fr) (ofL L1) res res') :
    ACall P f aa ((own.map fun p => (p.2, ho p.2)) ++ (imm.map fun p => (p.2, ho p.2)) ++ (bor.map fun p => (p.2, ho p.2)) ++ fr.map fun p => (p.2, .unused)) ((own.map (·.2) ++ eat.map (·.2) ++ fr.map (·.2)).map fun x => (x, ho' x)) res' := by
  refine ⟨H.1, fun h m w vs hrd rel hl => ?_⟩
  have hO : ∀ k x, (k, x) ∈ own → h x = ho x := fun k x hx => hrd (x, ho x) (by simp only [List.mem_append, List.mem_map]; exact .inl (.inl (.inl ⟨(k, x), hx, rfl⟩)))
  have hI : ∀ k x, (k, x) ∈ imm → h x = ho x := fun k x hx => hrd (x, ho x) (by simp only [List.mem_append, List.mem_map]; exact .inl (.inl (.inr ⟨(k, x), hx, rfl⟩)))
  have hB : ∀ k x, (k, x) ∈ bor → h x = ho x := fun k x hx => hrd (x, ho x) (by simp only [List.mem_append, List.mem_map]; exact .inl (.inr ⟨(k, x), hx, rfl⟩))
  have hFr : ∀ k x, (k, x) ∈ fr → h x = .unused := fun k x hx => hrd (x, .unused) (by simp only [List.mem_append, List.mem_map]; exact .inr ⟨(k, x), hx, rfl⟩)
  have noF : ∀ x y, (qIn own imm bor).F x y → h x = ho x := fun x y hxy => hB y x hxy
  -- the names as the callee has them
  have okq : RnOk h (ofL L0) (qIn own imm bor) := by
    refine ⟨fun y k' hy => ?_, fun x y hxy => ?_, cf.q.L1, cf.q.L2, fun x y hxy => ?_, cf.q.I2, fun x y hxy => ?_, cf.q.F2, cf.q.FL⟩
    · obtain ⟨x, k, h1, h2, h3, h4, h5⟩ := cf.q.live y k' hy
      exact ⟨x, k, h1, by rw [hO y x h1]; exact h2, h3, h4, h5.congr noF⟩
    · obtain ⟨k, k', h1, h2⟩ := cf.q.L x y hxy
      exact ⟨k, k', by rw [hO y x hxy]; exact h1, h2⟩
    · obtain ⟨h1, h2, h3⟩ := cf.q.I x y hxy
      rw [hI y x hxy]
      exact ⟨h1, h2, h3⟩
    · obtain ⟨⟨k, h1⟩, h2⟩ := cf.q.F x y hxy
      exact ⟨⟨k, by rw [hB y x hxy]; exact h1⟩, h2⟩
  have rb : RnB (fun _ => .unused) h (ofL L0) (qIn own imm bor) := ⟨okq, fun x y _ hb => absurd rfl hb, fun x y _ hb => absurd rfl hb, fun y hb => absurd rfl hb, fun x y hf => rfl, fun y hb => absurd rfl hb, fun x y _ _ _ hb => absurd rfl hb⟩
  have nm := Nm.turn_ok (m := m) rb
  have relS := rel.ren okq nm
  generalize hmS : m.turn (fun _ => .unused) (qIn own imm bor) = mS at nm relS
  have cmpS := nm.cmp okq
  refine (H.2 mS w vs relS ⟨hargs.1.symm.trans hl.1, fun i c' v h1 h2 => ?_⟩).mono ?_
  · have hlt : i < aa.length := by rw [hargs.1]; exact (List.getElem?_eq_some_iff.1 h1).1
    have ha := List.getElem?_eq_getElem hlt
    exact R.ren rel cmpS ((hargs.2 i _ c' ha h1).congr noF) (hl.2 i _ v ha h2)
  rintro e w' ⟨v, m1, rfl, rel1, ev1, hR1⟩
  refine ⟨v, ?_⟩
  -- places of the names that go in
  have plO : ∀ k x, (k, x) ∈ own → mS.pl k = m.pl x := fun k x hx => nm.pl x k hx
  have setI : ∀ k g, ((ofL L0) k).imm → (mS.set k g ↔ (∃ x, (k, x) ∈ imm ∧ m.set x g) ∨ ∃ x, (k, x) ∈ bor ∧ g = (m.pl x).1) := fun k g hi => nm.set k g hi
  have liveS : ∀ k b, (ofL L0) k = .live b → ∃ x kx, (k, x) ∈ own ∧ h x = .live kx := fun k b hk => by
    obtain ⟨x, kx, h1, h2, _⟩ := okq.live k b hk
    exact ⟨x, kx, h1, h2⟩
  have ownL : ∀ k x, (k, x) ∈ own → ∃ kx k0, h x = .live kx ∧ (ofL L0) k = .live k0 ∧ k0.sz = kx.sz ∧ k0.elem = kx.elem ∧ kx.rows.length = k0.rows.length := fun k x hx => by
    obtain ⟨kx, k0, h1, h2⟩ := okq.L x k hx
    obtain ⟨x2, kx2, h3, h4, h5, h6, h7⟩ := okq.live k k0 h2
    have := okq.L1 x x2 k hx h3
    subst this
    rw [h1] at h4; cases h4
    exact ⟨kx, k0, h1, h2, h5, h6, h7.1⟩
  have usedS : ∀ k, (ofL L0) k ≠ .unused → ∀ q, (ofL L0) k = q → m1.pl k = mS.pl k ∧ m1.set k = mS.set k := fun k hk q _ => ⟨ev1.pl k hk, ev1.set k hk⟩
  -- the heap behind it
  let h' : Hp := h.upds ((own.map (·.2) ++ eat.map (·.2) ++ fr.map (·.2)).map fun x => (x, ho' x))
  have hT : ∀ y, h' y = if y ∈ (own.map (·.2) ++ eat.map (·.2) ++ fr.map (·.2)) then ho' y else h y := fun y => upds_map ho' _ h y
  have h'O : ∀ k x, (k, x) ∈ own → h' x = ho' x := fun k x hx => by rw [hT, if_pos (List.mem_append_left _ (List.mem_append_left _ (List.mem_map.2 ⟨(k, x), hx, rfl⟩)))]
  have h'E : ∀ k x, (k, x) ∈ eat → h' x = .dead := fun k x hx => by rw [hT, if_pos (List.mem_append_left _ (List.mem_append_right _ (List.mem_map.2 ⟨(k, x), hx, rfl⟩)))]; exact (cf.eat1 k x hx).2.2.2
  have h'F : ∀ k x, (k, x) ∈ fr → h' x = ho' x := fun k x hx => by rw [hT, if_pos (List.mem_append_right _ (List.mem_map.2 ⟨(k, x), hx, rfl⟩))]
  have h'N : ∀ y, (∀ k, (k, y) ∉ own) → (∀ k, (k, y) ∉ eat) → (∀ k, (k, y) ∉ fr) → h' y = h y := fun y h1 h3 h2 => by
    rw [hT, if_neg]
    simp only [List.mem_append, List.mem_map, not_or]
    exact ⟨⟨fun ⟨⟨k, x⟩, hx, e⟩ => h1 k (by simp only at e; subst e; exact hx), fun ⟨⟨k, x⟩, hx, e⟩ => h3 k (by simp only at e; subst e; exact hx)⟩, fun ⟨⟨k, x⟩, hx, e⟩ => h2 k (by simp only at e; subst e; exact hx)⟩
  have ofr : ∀ k k' x, (k, x) ∈ own → (k', x) ∉ fr := fun k k' x ho hf => by
    obtain ⟨kx, _, h1, _⟩ := ownL k x ho
    rw [hFr k' x hf] at h1; cases h1
  -- what is eaten
  have eatU : ∀ k x, (k, x) ∈ eat → h x = .uniq := fun k x hx => by
    obtain ⟨h1, h2, _⟩ := cf.eat1 k x hx
    exact (okq.I x k h1).2.2 h2
  have eown : ∀ k k' x, (k, x) ∈ own → (k', x) ∉ eat := fun k k' x ho he => by
    obtain ⟨kx, _, h1, _⟩ := ownL k x ho
    rw [eatU k' x he] at h1; cases h1
  have efr : ∀ k k' x, (k, x) ∈ eat → (k', x) ∉ fr := fun k k' x he hf => by
    have := eatU k x he
    rw [hFr k' x hf] at this; cases this
  -- the places behind it
  let m' : Nm := ⟨fun y => if h : ∃ k, (k, y) ∈ fr then m1.pl h.choose else m.pl y, fun y => if h : ∃ k, (k, y) ∈ fr then m1.set h.choose else m.set y⟩
  have m'F : ∀ k x, (k, x) ∈ fr → m'.pl x = m1.pl k ∧ m'.set x = m1.set k := fun k x hx => by
    have hex : ∃ k, (k, x) ∈ fr := ⟨k, hx⟩
    have e := cf.fr1 _ k x hex.choose_spec hx
    constructor
    · show (if h : ∃ k, (k, x) ∈ fr then m1.pl h.choose else m.pl x) = _
      rw [dif_pos hex, e]
    · show (if h : ∃ k, (k, x) ∈ fr then m1.set h.choose else m.set x) = _
      rw [dif_pos hex, e]
  have m'N : ∀ y, (∀ k, (k, y) ∉ fr) → m'.pl y = m.pl y ∧ m'.set y = m.set y := fun y hy => by
    have hex : ¬ ∃ k, (k, y) ∈ fr := fun ⟨k, hk⟩ => hy k hk
    constructor
    · show (if h : ∃ k, (k, y) ∈ fr then m1.pl h.choose else m.pl y) = _
      rw [dif_neg hex]
    · show (if h : ∃ k, (k, y) ∈ fr then m1.set h.choose else m.set y) = _
      rw [dif_neg hex]
  have nfr : ∀ y, h y ≠ .unused → ∀ k, (k, y) ∉ fr := fun y hy k hk => hy (hFr k y hk)
  have pl1 : ∀ k x, (k, x) ∈ own → m1.pl k = m.pl x := fun k x hx => by
    obtain ⟨_, k0, _, h2, _⟩ := ownL k x hx
    rw [ev1.pl k (by rw [h2]; simp), plO k x hx]
  -- what was struck was eaten
  have killed : ∀ r g, (ofL L0) r = .uniq → (ofL L1) r ≠ .uniq → mS.set r g → ∃ x, (r, x) ∈ eat ∧ m.set x g := fun r g hr hd hs => by
    rcases (setI r g (by rw [hr]; trivial)).1 hs with ⟨x, h1, h2⟩ | ⟨x, h1, _⟩
    · rcases cf.perm r (by rw [hr]; trivial) with e | ⟨_, e⟩
      · exact absurd (e.trans hr) hd
      · exact ⟨x, cf.eat2 r x h1 hr e, h2⟩
    · have := cf.bor0 r x h1
      rw [hr] at this; cases this
  have frame : ∀ g, g < w.heap.size → (∀ k x, (k, x) ∈ own → (m.pl x).1 ≠ g) → (∀ k x, (k, x) ∈ eat → ¬ m.set x g) → w'.heap[g]? = w.heap[g]? := fun g hg ho he => by
    refine ev1.frame g hg (fun k b hk e => ?_) (fun r hr hs => ?_)
    · obtain ⟨x, kx, h1, h2⟩ := liveS k b hk
      rw [plO k x h1] at e
      exact ho k x h1 e
    · by_cases hd : (ofL L1) r = .uniq
      · exact hd
      · obtain ⟨x, h1, h2⟩ := killed r g hr hd hs
        exact absurd h2 (he r x h1)
  -- a name that is new lies in new memory, or where a name lay that went in
  have newPl : ∀ k b x, (k, x) ∈ fr → (ofL L1) k = .live b → w.heap.size ≤ (m1.pl k).1 ∨ (∃ k2 x2 kx, (k2, x2) ∈ own ∧ h x2 = .live kx ∧ (m.pl x2).1 = (m1.pl k).1) ∨ ∃ k2 x2, (k2, x2) ∈ eat ∧ m.set x2 (m1.pl k).1 := fun k b x hx hk => by
    rcases ev1.new k b (cf.fr0 k x hx).1 hk with h | ⟨i, ki, hi, e⟩ | ⟨r, hr, hd, hs⟩
    · exact .inl h
    · obtain ⟨x2, kx, h1, h2⟩ := liveS i ki hi
      exact .inr (.inl ⟨i, x2, kx, h1, h2, by rw [← plO i x2 h1]; exact e⟩)
    · obtain ⟨x2, h1, h2⟩ := killed r _ hr (by rw [hd]; simp) hs
      exact .inr (.inr ⟨r, x2, h1, h2⟩)
  have newSet : ∀ k x g, (k, x) ∈ fr → (ofL L1) k = .uniq → m1.set k g → w.heap.size ≤ g ∨ (∃ k2 x2 kx, (k2, x2) ∈ own ∧ h x2 = .live kx ∧ (m.pl x2).1 = g) ∨ ∃ k2 x2, (k2, x2) ∈ eat ∧ m.set x2 g := fun k x g hx hk hs => by
    rcases ev1.newU k g (cf.fr0 k x hx).1 hk hs with h | ⟨i, ki, hi, e⟩ | ⟨r, hr, hd, hs'⟩
    · exact .inl h
    · obtain ⟨x2, kx, h1, h2⟩ := liveS i ki hi
      exact .inr (.inl ⟨i, x2, kx, h1, h2, by rw [← plO i x2 h1]; exact e⟩)
    · obtain ⟨x2, h1, h2⟩ := killed r _ hr (by rw [hd]; simp) hs'
      exact .inr (.inr ⟨r, x2, h1, h2⟩)
  have ev : Ev m h w m' h' w' := by
    refine ⟨fun y hy => (m'N y (nfr y hy)).1, fun y hy => (m'N y (nfr y hy)).2, fun y => ?_, ev1.size, ?_, ?_, ?_, ?_, ev1.os, ev1.tape, ev1.output⟩
    · by_cases ho : ∃ k, (k, y) ∈ own
      · obtain ⟨k, hk⟩ := ho
        rw [h'O k y hk]
        obtain ⟨kx, k0, h1, h2, h3, h4, h5⟩ := ownL k y hk
        rw [h1]
        rcases cf.ownAft k y hk with ⟨k1, kx', a1, a2, a3, a4, a5⟩ | ⟨a1, a2⟩
        · rw [a2]
          have hg := ev1.kind k
          rw [h2, a1] at hg
          exact ⟨by rw [a3, hg.1, h3], by rw [h5, ← a5.1]; exact hg.2⟩
        · rw [a2]; trivial
      · by_cases hf : ∃ k, (k, y) ∈ fr
        · obtain ⟨k, hk⟩ := hf
          rw [hFr k y hk]; trivial
        · by_cases he : ∃ k, (k, y) ∈ eat
          · obtain ⟨k, hk⟩ := he
            rw [h'E k y hk, eatU k y hk]; trivial
          · rw [h'N y (fun k hk => ho ⟨k, hk⟩) (fun k hk => he ⟨k, hk⟩) (fun k hk => hf ⟨k, hk⟩)]
            exact Own.goes_refl _
    · intro id b b' h1 h2 cur e f hc
      by_cases ho : ∃ k, (k, id) ∈ own
      · obtain ⟨k, hk⟩ := ho
        obtain ⟨kx, k0, g1, g2, _⟩ := ownL k id hk
        rw [h'O k id hk] at h2
        rcases cf.ownAft k id hk with ⟨k1, kx', a1, _⟩ | ⟨_, a2⟩
        · rw [← plO k id hk] at hc ⊢
          exact ev1.cells k k0 k1 g2 a1 cur e f hc
        · rw [a2] at h2; cases h2
      · have hlt : (m.pl id).1 < w.heap.size := by
          obtain ⟨c, hcc, _⟩ := rel.own id b h1
          exact (Array.getElem?_eq_some_iff.1 hcc).1
        rw [frame _ hlt (fun k x hx e => by
          obtain ⟨kx, _, g1, _⟩ := ownL k x hx
          have := rel.sep x id kx b g1 h1 e
          subst this
          exact ho ⟨k, hx⟩) (fun k x hx => rel.sepR id b x h1 (by rw [eatU k x hx]; trivial))] at hc
        exact ⟨cur, e, f, hc, rfl⟩
    · intro g hg ho hu
      refine frame g hg (fun k x hx e => ?_) fun k x hx hs => ?_
      · obtain ⟨kx, _, g1, _⟩ := ownL k x hx
        exact ho x kx g1 e
      · have := hu x (eatU k x hx) hs
        rw [h'E k x hx] at this; cases this
    · intro y b h1 h2
      by_cases hf : ∃ k, (k, y) ∈ fr
      · obtain ⟨k, hk⟩ := hf
        rw [(m'F k y hk).1]
        rw [h'F k y hk] at h2
        rcases cf.frAft k y hk with ⟨k1, kx', a1, a2, _⟩ | ⟨a1, a2⟩
        · rcases newPl k k1 y hk a1 with h | ⟨k2, x2, kx, g1, g2, g3⟩ | ⟨k2, x2, g1, g2⟩
          · exact .inl h
          · exact .inr (.inl ⟨x2, kx, g2, g3⟩)
          · exact .inr (.inr ⟨x2, eatU k2 x2 g1, h'E k2 x2 g1, g2⟩)
        · rw [a2] at h2; cases h2
      · exfalso
        by_cases ho : ∃ k, (k, y) ∈ own
        · obtain ⟨k, hk⟩ := ho
          obtain ⟨kx, _, g1, _⟩ := ownL k y hk
          rw [h1] at g1; cases g1
        · by_cases he : ∃ k, (k, y) ∈ eat
          · obtain ⟨k, hk⟩ := he
            rw [h'E k y hk] at h2; cases h2
          · rw [h'N y (fun k hk => ho ⟨k, hk⟩) (fun k hk => he ⟨k, hk⟩) (fun k hk => hf ⟨k, hk⟩), h1] at h2; cases h2
    · intro y g h1 h2 hs
      by_cases hf : ∃ k, (k, y) ∈ fr
      · obtain ⟨k, hk⟩ := hf
        rw [(m'F k y hk).2] at hs
        rw [h'F k y hk] at h2
        rcases cf.frAft k y hk with ⟨k1, kx', a1, a2, _⟩ | ⟨a1, a2⟩
        · rw [a2] at h2; cases h2
        · rcases newSet k y g hk a1 hs with h | ⟨k2, x2, kx, g1, g2, g3⟩ | ⟨k2, x2, g1, g2⟩
          · exact .inl h
          · exact .inr (.inl ⟨x2, kx, g2, g3⟩)
          · exact .inr (.inr ⟨x2, eatU k2 x2 g1, h'E k2 x2 g1, g2⟩)
      · exfalso
        by_cases ho : ∃ k, (k, y) ∈ own
        · obtain ⟨k, hk⟩ := ho
          obtain ⟨kx, _, g1, _⟩ := ownL k y hk
          rw [h1] at g1; cases g1
        · by_cases he : ∃ k, (k, y) ∈ eat
          · obtain ⟨k, hk⟩ := he
            rw [h'E k y hk] at h2; cases h2
          · rw [h'N y (fun k hk => ho ⟨k, hk⟩) (fun k hk => he ⟨k, hk⟩) (fun k hk => hf ⟨k, hk⟩), h1] at h2; cases h2
  -- the callee's data as the caller's
  have cmpO : Cmp m1 (ofL L1) m' h' (qOut (ofL L1) own imm bor fr) := by
    refine ⟨fun k x hkx => ?_, fun k x hkx => ?_, fun k x hkx => hkx.elim⟩
    · obtain ⟨hm, b, hb⟩ := hkx
      rcases hm with hm | hm
      · rcases cf.ownAft k x hm with ⟨k1, kx', a1, a2, a3, a4, a5⟩ | ⟨a1, _⟩
        · refine ⟨k1, kx', a1, by rw [h'O k x hm]; exact a2, a3, by rw [a5.1]; exact Nat.le_refl _, ?_⟩
          rw [(m'N x (fun k' hk' => ofr k k' x hm hk')).1, pl1 k x hm]
        · rw [hb] at a1; cases a1
      · rcases cf.frAft k x hm with ⟨k1, kx', a1, a2, a3, a4, a5⟩ | ⟨a1, _⟩
        · exact ⟨k1, kx', a1, by rw [h'F k x hm]; exact a2, a3, by rw [a5.1]; exact Nat.le_refl _, (m'F k x hm).1⟩
        · rw [hb] at a1; cases a1
    · rcases hkx with ⟨hm, hu⟩ | ⟨hm, huniq, hnb, h1i⟩
      · rcases cf.frAft k x hm with ⟨k1, kx', a1, _⟩ | ⟨a1, a2⟩
        · rw [hu] at a1; cases a1
        · refine ⟨by rw [a1]; trivial, by rw [h'F k x hm, a2]; trivial, fun g hg => by rw [(m'F k x hm).2]; exact hg⟩
      · obtain ⟨i1, i2, i3⟩ := okq.I x k hm
        have e1 : (ofL L1) k = (ofL L0) k := by
          rcases cf.perm k i2 with e | ⟨_, e⟩
          · exact e
          · rw [e] at h1i; exact h1i.elim
        have hxe : ∀ k', (k', x) ∉ eat := fun k' hk' => by
          obtain ⟨f1, f2, f3, _⟩ := cf.eat1 k' x hk'
          have := cf.q.I2 x k' k f1 hm f2
          subst this
          rw [f3] at h1i; exact h1i
        have hxo : ∀ k', (k', x) ∉ own := fun k' hk' => by
          obtain ⟨kx, _, g1, _⟩ := ownL k' x hk'
          rw [g1] at i1; exact i1
        have hxu : h x ≠ .unused := by intro e; rw [e] at i1; exact i1
        have hxf : ∀ k', (k', x) ∉ fr := nfr x hxu
        refine ⟨by rw [e1]; exact i2, by rw [h'N x hxo hxe hxf]; exact i1, fun g hg => ?_⟩
        have hk : (ofL L0) k ≠ .unused := by intro e; rw [e] at i2; exact i2
        rw [(m'N x hxf).2]
        rw [ev1.set k hk] at hg
        rcases (setI k g i2).1 hg with ⟨x', hx', hg'⟩ | ⟨x', hx', _⟩
        · rw [huniq x' hx'] at hg'
          exact hg'
        · exact absurd hx' (hnb x')
  refine ⟨m', rfl, ?_, ev, R.ren rel1 cmpO hres hR1⟩
  -- the names lie as they should
  have live' : ∀ y b, h' y = .live b → (∃ k k1, (k, y) ∈ own ∧ (ofL L1) k = .live k1 ∧ m'.pl y = m1.pl k ∧ b.sz = k1.sz ∧ b.elem = k1.elem ∧ RowsRen (qOut (ofL L1) own imm bor fr) (ofL L1) k1.rows b.rows ∧ m'.pl y = m.pl y ∧ ∃ kx, h y = .live kx) ∨
      (∃ k k1, (k, y) ∈ fr ∧ (ofL L1) k = .live k1 ∧ m'.pl y = m1.pl k ∧ b.sz = k1.sz ∧ b.elem = k1.elem ∧ RowsRen (qOut (ofL L1) own imm bor fr) (ofL L1) k1.rows b.rows) ∨
      ((∀ k, (k, y) ∉ own) ∧ h y = .live b ∧ m'.pl y = m.pl y) := by
    intro y b hy
    by_cases ho : ∃ k, (k, y) ∈ own
    · obtain ⟨k, hk⟩ := ho
      rw [h'O k y hk] at hy
      rcases cf.ownAft k y hk with ⟨k1, kx', a1, a2, a3, a4, a5⟩ | ⟨a1, a2⟩
      · rw [a2] at hy; cases hy
        have e := (m'N y (fun k' hk' => ofr k k' y hk hk')).1
        obtain ⟨kx, _, g1, _⟩ := ownL k y hk
        exact .inl ⟨k, k1, hk, a1, by rw [e, pl1 k y hk], a3, a4, a5, e, kx, g1⟩
      · rw [a2] at hy; cases hy
    · by_cases hf : ∃ k, (k, y) ∈ fr
      · obtain ⟨k, hk⟩ := hf
        rw [h'F k y hk] at hy
        rcases cf.frAft k y hk with ⟨k1, kx', a1, a2, a3, a4, a5⟩ | ⟨a1, a2⟩
        · rw [a2] at hy; cases hy
          exact .inr (.inl ⟨k, k1, hk, a1, (m'F k y hk).1, a3, a4, a5⟩)
        · rw [a2] at hy; cases hy
      · have hno : ∀ k, (k, y) ∉ own := fun k hk => ho ⟨k, hk⟩
        have hnf : ∀ k, (k, y) ∉ fr := fun k hk => hf ⟨k, hk⟩
        by_cases he : ∃ k, (k, y) ∈ eat
        · obtain ⟨k, hk⟩ := he
          rw [h'E k y hk] at hy; cases hy
        · rw [h'N y hno (fun k hk => he ⟨k, hk⟩) hnf] at hy
          exact .inr (.inr ⟨hno, hy, (m'N y hnf).1⟩)
  have imm' : ∀ y, (h' y).imm → (∃ k, (k, y) ∈ fr ∧ (ofL L1) k = .uniq ∧ m'.set y = m1.set k ∧ h' y = .uniq) ∨ ((h y).imm ∧ h' y = h y ∧ m'.set y = m.set y ∧ (∀ k, (k, y) ∉ own) ∧ ∀ k, (k, y) ∉ eat) := by
    intro y hy
    by_cases ho : ∃ k, (k, y) ∈ own
    · obtain ⟨k, hk⟩ := ho
      rw [h'O k y hk] at hy
      rcases cf.ownAft k y hk with ⟨k1, kx', a1, a2, _⟩ | ⟨a1, a2⟩ <;> rw [a2] at hy <;> exact hy.elim
    · by_cases hf : ∃ k, (k, y) ∈ fr
      · obtain ⟨k, hk⟩ := hf
        rw [h'F k y hk] at hy
        rcases cf.frAft k y hk with ⟨k1, kx', a1, a2, _⟩ | ⟨a1, a2⟩
        · rw [a2] at hy; exact hy.elim
        · exact .inl ⟨k, hk, a1, (m'F k y hk).2, by rw [h'F k y hk]; exact a2⟩
      · have hno : ∀ k, (k, y) ∉ own := fun k hk => ho ⟨k, hk⟩
        have hnf : ∀ k, (k, y) ∉ fr := fun k hk => hf ⟨k, hk⟩
        by_cases he : ∃ k, (k, y) ∈ eat
        · obtain ⟨k, hk⟩ := he
          rw [h'E k y hk] at hy; exact hy.elim
        · have e := h'N y hno (fun k hk => he ⟨k, hk⟩) hnf
          rw [e] at hy
          exact .inr ⟨hy, e, (m'N y hnf).2, hno, fun k hk => he ⟨k, hk⟩⟩
  have ltO : ∀ x k', h x = .live k' → (m.pl x).1 < w.heap.size := fun x k' hx => by
    obtain ⟨c, h1, _⟩ := rel.own x k' hx
    exact (Array.getElem?_eq_some_iff.1 h1).1
  have far : ∀ y b, (∀ k, (k, y) ∉ own) → h y = .live b → w'.heap[(m.pl y).1]? = w.heap[(m.pl y).1]? := fun y b hno hy => frame _ (ltO y b hy) (fun k x hx e => by
    obtain ⟨kx, _, g1, _⟩ := ownL k x hx
    have := rel.sep x y kx b g1 hy e
    subst this
    exact hno k hx) fun k x hx => rel.sepR y b x hy (by rw [eatU k x hx]; trivial)
  have rowsOk : ∀ (y k : Nat) (k1 b : Blk), (ofL L1) k = .live k1 → m'.pl y = m1.pl k → b.sz = k1.sz → b.elem = k1.elem → RowsRen (qOut (ofL L1) own imm bor fr) (ofL L1) k1.rows b.rows →
      ∃ cur, w'.heap[(m'.pl y).1]? = some (.cells cur b.elem (0, 0)) ∧ (m'.pl y).2 + b.rows.length * b.sz ≤ cur.size ∧ (∀ row, row ∈ b.rows → row.length = b.sz) ∧
        ∀ (i j : Nat) (row : List AV) (c : AV), b.rows[i]? = some row → row[j]? = some c → ∃ v, cur[(m'.pl y).2 + i * b.sz + j]? = some v ∧ R m' h' w' c v := by
    intro y k k1 b hk hpl hsz hel hr
    obtain ⟨cur, c1, c2, c3, c4⟩ := rel1.own k k1 hk
    refine ⟨cur, by rw [hpl, hel]; exact c1, by rw [hpl, hsz, ← hr.1]; exact c2, fun row' hm => ?_, fun i j row' c' a d => ?_⟩
    · obtain ⟨i, hi⟩ := List.getElem?_of_mem hm
      have hlt : i < k1.rows.length := by rw [hr.1]; exact (List.getElem?_eq_some_iff.1 hi).1
      rw [← hr.2.1 i _ row' (List.getElem?_eq_getElem hlt) hi, hsz]
      exact c3 _ (List.getElem_mem hlt)
    · have hlt : i < k1.rows.length := by rw [hr.1]; exact (List.getElem?_eq_some_iff.1 a).1
      have hrow := List.getElem?_eq_getElem hlt
      have hlj : j < (k1.rows[i]).length := by rw [hr.2.1 i _ row' hrow a]; exact (List.getElem?_eq_some_iff.1 d).1
      have hcc := List.getElem?_eq_getElem hlj
      obtain ⟨v, v1, v2⟩ := c4 i j _ _ hrow hcc
      exact ⟨v, by rw [hpl, hsz]; exact v1, R.ren rel1 cmpO (hr.2.2 i j _ row' _ c' hrow a hcc d) v2⟩
  show Rel m' h' w'
  refine ⟨?_, ?_, ?_, ?_, ?_, ?_⟩
  · intro y b hy
    rcases live' y b hy with ⟨k, k1, _, h2, h3, h4, h5, h6, _⟩ | ⟨k, k1, _, h2, h3, h4, h5, h6⟩ | ⟨hno, hy0, hpl⟩
    · exact rowsOk y k k1 b h2 h3 h4 h5 h6
    · exact rowsOk y k k1 b h2 h3 h4 h5 h6
    · obtain ⟨cur, c1, c2, c3, c4⟩ := rel.own y b hy0
      rw [hpl]
      exact ⟨cur, by rw [far y b hno hy0]; exact c1, c2, c3, fun i j row c a d => let ⟨v, v1, v2⟩ := c4 i j row c a d; ⟨v, v1, v2.mono rel ev⟩⟩
  · intro y y' b b' hy hy' e
    rcases live' y b hy with ⟨k, k1, o1, h2, h3, _, _, _, hp, kx, hx⟩ | ⟨k, k1, f1, h2, h3, _⟩ | ⟨hno, hy0, hpl⟩ <;>
      rcases live' y' b' hy' with ⟨k', k1', o1', h2', h3', _, _, _, hp', kx', hx'⟩ | ⟨k', k1', f1', h2', h3', _⟩ | ⟨hno', hy0', hpl'⟩
    · rw [hp, hp'] at e; exact rel.sep y y' kx kx' hx hx' e
    · rw [h3, h3'] at e
      have := rel1.sep k k' k1 k1' h2 h2' e
      subst this
      obtain ⟨_, k0, _, g2, _⟩ := ownL k y o1
      rw [(cf.fr0 k y' f1').1] at g2; cases g2
    · rw [hp, hpl'] at e; exact rel.sep y y' kx b' hx hy0' e
    · rw [h3, h3'] at e
      have := rel1.sep k k' k1 k1' h2 h2' e
      subst this
      obtain ⟨_, k0, _, g2, _⟩ := ownL k y' o1'
      rw [(cf.fr0 k y f1).1] at g2; cases g2
    · rw [h3, h3'] at e
      have := rel1.sep k k' k1 k1' h2 h2' e
      subst this
      exact cf.fr2 k y y' f1 f1'
    · rw [h3, hpl'] at e
      rcases newPl k k1 y f1 h2 with h | ⟨k2, x2, kx2, g1, g2, g3⟩ | ⟨k2, x2, g1, g2⟩
      · have := ltO y' b' hy0'; omega
      · have := rel.sep x2 y' kx2 b' g2 hy0' (g3.trans e)
        subst this
        exact absurd g1 (hno' k2)
      · rw [e] at g2
        exact absurd g2 (rel.sepR y' b' x2 hy0' (by rw [eatU k2 x2 g1]; trivial))
    · rw [hpl, hp'] at e; exact rel.sep y y' b kx' hy0 hx' e
    · rw [hpl, h3'] at e
      rcases newPl k' k1' y' f1' h2' with h | ⟨k2, x2, kx2, g1, g2, g3⟩ | ⟨k2, x2, g1, g2⟩
      · have := ltO y b hy0; omega
      · have := rel.sep x2 y kx2 b g2 hy0 (g3.trans e.symm)
        subst this
        exact absurd g1 (hno k2)
      · rw [← e] at g2
        exact absurd g2 (rel.sepR y b x2 hy0 (by rw [eatU k2 x2 g1]; trivial))
    · rw [hpl, hpl'] at e; exact rel.sep y y' b b' hy0 hy0' e
  · intro y b r hy hr hs
    rcases imm' r hr with ⟨kr, fr1, hu, hset, _⟩ | ⟨hir, hee, hset, hno1, hne1⟩
    · rw [hset] at hs
      rcases live' y b hy with ⟨k, k1, o1, h2, h3, _⟩ | ⟨k, k1, f1, h2, h3, _⟩ | ⟨hno, hy0, hpl⟩
      · rw [h3] at hs; exact rel1.sepR k k1 kr h2 (by rw [hu]; trivial) hs
      · rw [h3] at hs; exact rel1.sepR k k1 kr h2 (by rw [hu]; trivial) hs
      · rw [hpl] at hs
        rcases newSet kr r _ fr1 hu hs with h | ⟨k2, x2, kx2, g1, g2, g3⟩ | ⟨k2, x2, g1, g2⟩
        · have := ltO y b hy0; omega
        · have := rel.sep x2 y kx2 b g2 hy0 g3
          subst this
          exact hno k2 g1
        · exact rel.sepR y b x2 hy0 (by rw [eatU k2 x2 g1]; trivial) g2
    · rw [hset] at hs
      rcases live' y b hy with ⟨k, k1, o1, h2, h3, _, _, _, hp, kx, hx⟩ | ⟨k, k1, f1, h2, h3, _⟩ | ⟨hno, hy0, hpl⟩
      · rw [hp] at hs; exact rel.sepR y kx r hx hir hs
      · rw [h3] at hs
        rcases newPl k k1 y f1 h2 with h | ⟨k2, x2, kx2, g1, g2, g3⟩ | ⟨k2, x2, g1, g2⟩
        · have := rel.bound r _ hir hs; omega
        · rw [← g3] at hs; exact rel.sepR x2 kx2 r g2 hir hs
        · exact rel.sepU x2 r _ (eatU k2 x2 g1) hir (by rintro rfl; exact hne1 k2 g1) g2 hs
      · rw [hpl] at hs; exact rel.sepR y b r hy0 hir hs
  · intro r r' g hr hr' hne hs hs'
    rcases imm' r (by rw [hr]; trivial) with ⟨kr, fr1, hu, hset, _⟩ | ⟨hir, hee, hset, hno1, hne1⟩ <;> rcases imm' r' hr' with ⟨kr', fr1', hu', hset', _⟩ | ⟨hir', hee', hset', hno1', hne1'⟩
    · rw [hset] at hs
      rw [hset'] at hs'
      by_cases e : kr = kr'
      · subst e; exact hne (cf.fr2 kr r r' fr1 fr1')
      · exact rel1.sepU kr kr' g hu (by rw [hu']; trivial) e hs hs'
    · rw [hset] at hs
      rw [hset'] at hs'
      rcases newSet kr r g fr1 hu hs with h | ⟨k2, x2, kx2, g1, g2, g3⟩ | ⟨k2, x2, g1, g2⟩
      · have := rel.bound r' g hir' hs'; omega
      · rw [← g3] at hs'; exact rel.sepR x2 kx2 r' g2 hir' hs'
      · exact rel.sepU x2 r' _ (eatU k2 x2 g1) hir' (by rintro rfl; exact hne1' k2 g1) g2 hs'
    · rw [hset] at hs
      rw [hset'] at hs'
      rcases newSet kr' r' g fr1' hu' hs' with h | ⟨k2, x2, kx2, g1, g2, g3⟩ | ⟨k2, x2, g1, g2⟩
      · have := rel.bound r g hir hs; omega
      · rw [← g3] at hs; exact rel.sepR x2 kx2 r g2 hir hs
      · exact rel.sepU x2 r _ (eatU k2 x2 g1) hir (by rintro rfl; exact hne1 k2 g1) g2 hs
    · rw [hset] at hs
      rw [hset'] at hs'
      rw [hee] at hr
      exact rel.sepU r r' g hr hir' hne hs hs'
  · intro r g hr hs
    rcases imm' r hr with ⟨kr, fr1, hu, hset, _⟩ | ⟨hir, hee, hset, hno1, hne1⟩
    · rw [hset] at hs; exact rel1.bound kr g (by rw [hu]; trivial) hs
    · rw [hset] at hs; exact Nat.lt_of_lt_of_le (rel.bound r g hir hs) ev1.size
  · intro r g hr hs
    rcases imm' r (by rw [hr]; trivial) with ⟨kr, fr1, hu, hset, _⟩ | ⟨hir, hee, hset, hno, hne⟩
    · rw [hset] at hs; exact rel1.free kr g hu hs
    · rw [hset] at hs
      rw [hee] at hr
      rw [frame g (rel.bound r g hir hs) (fun k x hx e => by
        obtain ⟨kx, _, g1, _⟩ := ownL k x hx
        exact rel.sepR x kx r g1 hir (e ▸ hs)) fun k x hx hs2 => rel.sepU x r g (eatU k x hx) hir (by rintro rfl; exact hne k hx) hs2 hs]
      exact rel.free r g hr hs
end
end Go.Proofs.Ytjmjnndmpeeppaa

/- Memory that is let go of: what the functions that write over answers leave as it is. No condition. -/
import Derived.Test.YtjmjnndmpeeppaaAhiC
import Derived.Test.YtjmjnndmpeeppaaTy
import Derived.Test.YtjmjnndmpeeppaaMath
import Derived.OwnWalk
import Derived.Laws.OwnMore
import Derived.ArgAppend
import Derived.Deep.QuietTactic
import Derived.BigQuiet
namespace Go.Proofs.Ytjmjnndmpeeppaa
open BigFrame
open Go.RowKit
set_option linter.unusedVariables false
set_option linter.unusedSimpArgs false

def byK (a b : Value) : Prop := b = a ∨ ∃ x, b = .int .u8 x
def prK (a b : Value) : Prop := b = a ∨ (∃ k x y, a = .int k x ∧ b = .int k y) ∨ (∃ p n c, a = .slice p n c ∧ b = .slice none 0 0)
theorem byK.trans {a b c : Value} (h : byK a b) (k : byK b c) : byK a c := by
  rcases k with rfl | k
  · exact h
  · exact .inr k
theorem prK.trans {a b c : Value} (h : prK a b) (k : prK b c) : prK a c := by
  rcases k with rfl | ⟨k, x, y, rfl, rfl⟩ | ⟨p, n, q, rfl, rfl⟩
  · exact h
  · rcases h with h | ⟨k', x', y', rfl, h2⟩ | ⟨p, n, q, rfl, h2⟩
    · exact .inr (.inl ⟨k, x, y, h.symm, rfl⟩)
    · cases h2; exact .inr (.inl ⟨_, _, _, rfl, rfl⟩)
    · cases h2
  · rcases h with h | ⟨k', x', y', rfl, h2⟩ | ⟨p', n', q', rfl, h2⟩
    · exact .inr (.inr ⟨p, n, q, h.symm, rfl⟩)
    · cases h2
    · exact .inr (.inr ⟨_, _, _, rfl, rfl⟩)
/-- a block goes on, cell by cell -/
def BlkK (K : Value → Value → Prop) (w w' : World) (g : Nat) : Prop :=
  ∀ (cur : Array Value) (e : TypeId), w.heap[g]? = some (.cells cur e (0, 0)) → ∃ cur', w'.heap[g]? = some (.cells cur' e (0, 0)) ∧ cur'.size = cur.size ∧ ∀ (o : Nat) (v : Value), cur[o]? = some v → ∃ v', cur'[o]? = some v' ∧ K v v'
theorem BlkK.trans {K : Value → Value → Prop} (hK : ∀ a b c, K a b → K b c → K a c) {w1 w2 w3 : World} {g : Nat} (a : BlkK K w1 w2 g) (b : BlkK K w2 w3 g) : BlkK K w1 w3 g := by
  intro cur e h
  obtain ⟨c2, h2, s2, k2⟩ := a cur e h
  obtain ⟨c3, h3, s3, k3⟩ := b c2 e h2
  refine ⟨c3, h3, s3.trans s2, fun o v hv => ?_⟩
  obtain ⟨v2, g2, r2⟩ := k2 o v hv
  obtain ⟨v3, g3, r3⟩ := k3 o v2 g2
  exact ⟨v3, g3, hK _ _ _ r2 r3⟩
theorem BlkK.same {K : Value → Value → Prop} (hK : ∀ a, K a a) {w w' : World} {g : Nat} (h : w'.heap[g]? = w.heap[g]?) : BlkK K w w' g :=
  fun cur e hc => ⟨cur, h.trans hc, rfl, fun o v hv => ⟨v, hv, hK v⟩⟩
/-- bytes of D may be written over, pieces of P too; all else stays -/
structure Sp (D P : Nat → Prop) (w w' : World) : Prop where
  size : w.heap.size ≤ w'.heap.size
  os : w'.os = w.os
  tape : w'.tape = w.tape
  output : w'.output = w.output
  far : ∀ g, g < w.heap.size → ¬ D g → ¬ P g → w'.heap[g]? = w.heap[g]?
  byt : ∀ g, D g → BlkK byK w w' g
  prt : ∀ g, P g → BlkK prK w w' g
theorem Sp.refl (D P : Nat → Prop) (w : World) : Sp D P w w := ⟨Nat.le_refl _, rfl, rfl, rfl, fun _ _ _ _ => rfl, fun _ _ => .same (fun _ => .inl rfl) rfl, fun _ _ => .same (fun _ => .inl rfl) rfl⟩
theorem Sp.trans {D P : Nat → Prop} {a b c : World} (h : Sp D P a b) (k : Sp D P b c) : Sp D P a c :=
  ⟨Nat.le_trans h.size k.size, k.os.trans h.os, k.tape.trans h.tape, k.output.trans h.output, fun g hg h1 h2 => (k.far g (Nat.lt_of_lt_of_le hg h.size) h1 h2).trans (h.far g hg h1 h2),
    fun g hg => BlkK.trans (K := byK) (fun _ _ _ h k => byK.trans h k) (h.byt g hg) (k.byt g hg), fun g hg => BlkK.trans (K := prK) (fun _ _ _ h k => prK.trans h k) (h.prt g hg) (k.prt g hg)⟩
theorem lt_of_cells {w : World} {g : Nat} {cur : Array Value} {e : TypeId} {f : Nat × Nat} (h : w.heap[g]? = some (.cells cur e f)) : g < w.heap.size := (Array.getElem?_eq_some_iff.1 h).1
/-- nothing old has turned -/
theorem Sp.new {D P : Nat → Prop} {w w' : World} (hs : w.heap.size ≤ w'.heap.size) (o1 : w'.os = w.os) (o2 : w'.tape = w.tape) (o3 : w'.output = w.output) (h : ∀ g, g < w.heap.size → w'.heap[g]? = w.heap[g]?) : Sp D P w w' :=
  ⟨hs, o1, o2, o3, fun g hg _ _ => h g hg, fun g _ => fun cur e hc => BlkK.same (fun _ => .inl rfl) (h g (lt_of_cells hc)) cur e hc, fun g _ => fun cur e hc => BlkK.same (fun _ => .inl rfl) (h g (lt_of_cells hc)) cur e hc⟩
theorem Sp.alloc {D P : Nat → Prop} {a w : World} (h : Sp D P a w) (o : Obj) : Sp D P a (w.alloc o) := h.trans (.new (by simp) rfl rfl rfl fun g hg => Below.heap_alloc _ _ _ hg)
theorem Sp.drew {D P : Nat → Prop} {a w : World} (h : Sp D P a w) : Sp D P a w.drew := ⟨h.1, h.2, h.3, h.4, h.5, h.6, h.7⟩
theorem Sp.drewN {D P : Nat → Prop} {a w : World} {n : Nat} (h : Sp D P a w) : Sp D P a (w.drewN n) := ⟨h.1, h.2, h.3, h.4, h.5, h.6, h.7⟩
theorem Sp.grown {D P : Nat → Prop} {a w w' : World} (h : Sp D P a w) (hg : w.grownBy w' none) : Sp D P a w' := h.trans (.new hg.size hg.os hg.tape hg.output fun k hk => hg.block k hk (by simp))
theorem heap_setCell_at {w : World} {g o : Nat} {cur : Array Value} {e : TypeId} {f : Nat × Nat} (hg : w.heap[g]? = some (.cells cur e f)) (v : Value) : (w.setCell ⟨g, o, none⟩ v).heap[g]? = some (.cells (cur.setIfInBounds o v) e f) := by
  simp [World.setCell, Array.getElem?_modify, hg]
theorem BlkK.set {K : Value → Value → Prop} (hr : ∀ a, K a a) {w : World} {g o : Nat} {v : Value} (h : ∀ cur e, w.heap[g]? = some (.cells cur e (0, 0)) → ∀ u, cur[o]? = some u → K u v) : BlkK K w (w.setCell ⟨g, o, none⟩ v) g := by
  intro cur e hc
  refine ⟨_, heap_setCell_at hc v, by simp, fun o' u hu => ?_⟩
  by_cases ho : o = o'
  · subst ho
    have hlt : o < cur.size := (Array.getElem?_eq_some_iff.1 hu).1
    exact ⟨v, by simp [Array.getElem?_setIfInBounds, hlt], h cur e hc u hu⟩
  · exact ⟨u, by rw [Array.getElem?_setIfInBounds_ne ho]; exact hu, hr u⟩
theorem Sp.setByte {D P : Nat → Prop} {a w : World} (hdp : ∀ g, D g → ¬ P g) (h : Sp D P a w) {g : Nat} (hd : D g) (o : Nat) (x : Int) : Sp D P a (w.setCell ⟨g, o, none⟩ (.int .u8 x)) := by
  refine h.trans ⟨by simp [World.setCell], rfl, rfl, rfl, fun g' hg' h1 h2 => Below.heap_setCell _ _ _ _ (by rintro rfl; exact h1 hd), fun g' hg' => ?_, fun g' hg' => .same (fun _ => .inl rfl) (Below.heap_setCell _ _ _ _ (by rintro rfl; exact hdp _ hd hg'))⟩
  by_cases e : g' = g
  · subst e; exact BlkK.set (fun _ => .inl rfl) fun _ _ _ _ _ => .inr ⟨x, rfl⟩
  · exact .same (fun _ => .inl rfl) (Below.heap_setCell _ _ _ _ e)
theorem Sp.setPart {D P : Nat → Prop} {a w : World} (hdp : ∀ g, D g → ¬ P g) (h : Sp D P a w) {g : Nat} (hp : P g) (o : Nat) (v : Value) {cur : Array Value} {e : TypeId} {u : Value} (hg : w.heap[g]? = some (.cells cur e (0, 0))) (hu : cur[o]? = some u) (hK : prK u v) : Sp D P a (w.setCell ⟨g, o, none⟩ v) := by
  refine h.trans ⟨by simp [World.setCell], rfl, rfl, rfl, fun g' hg' h1 h2 => Below.heap_setCell _ _ _ _ (by rintro rfl; exact h2 hp), fun g' hg' => .same (fun _ => .inl rfl) (Below.heap_setCell _ _ _ _ (by rintro rfl; exact hdp _ hg' hp)), fun g' hg' => ?_⟩
  by_cases e2 : g' = g
  · subst e2
    refine BlkK.set (fun _ => .inl rfl) fun c e' hc u' hu' => ?_
    rw [hg] at hc; cases hc
    rw [hu] at hu'; cases hu'
    exact hK
  · exact .same (fun _ => .inl rfl) (Below.heap_setCell _ _ _ _ e2)

/-- a slice of bytes that may be written over -/
def BySp (D : Nat → Prop) (w : World) (v : Value) : Prop :=
  v = .slice none 0 0 ∨ (∃ a, v = .slice (some a) 0 0) ∨ ∃ g off n cap cur e, v = .slice (some ⟨g, off, none⟩) n cap ∧ D g ∧ n ≤ cap ∧ cap ≤ maxLen ∧ n ≤ 100000000 ∧ w.heap[g]? = some (.cells cur e (0, 0)) ∧ off + cap ≤ cur.size ∧ ∀ k, k < n → ∃ x, cur[off + k]? = some (.int .u8 x)
theorem BySp.mono {D P : Nat → Prop} {w w' : World} {v : Value} (h : BySp D w v) (s : Sp D P w w') : BySp D w' v := by
  rcases h with h | h | ⟨g, off, n, cap, cur, e, rfl, hd, h1, h2, h3, h4, h5, h6⟩
  · exact .inl h
  · exact .inr (.inl h)
  · obtain ⟨c, a1, a2, a3⟩ := s.byt g hd cur e h4
    refine .inr (.inr ⟨g, off, n, cap, c, e, rfl, hd, h1, h2, h3, a1, by omega, fun k hk => ?_⟩)
    obtain ⟨x, hx⟩ := h6 k hk
    obtain ⟨v', b1, b2⟩ := a3 _ _ hx
    rcases b2 with rfl | ⟨y, rfl⟩
    · exact ⟨x, b1⟩
    · exact ⟨y, b1⟩
theorem BySp.wider {D D' : Nat → Prop} (hd : ∀ g, D g → D' g) {w : World} {v : Value} (h : BySp D w v) : BySp D' w v := by
  rcases h with h | h | ⟨g, off, n, cap, cur, e, rfl, h0, r⟩
  · exact .inl h
  · exact .inr (.inl h)
  · exact .inr (.inr ⟨g, off, n, cap, cur, e, rfl, hd g h0, r⟩)
/-- one byte is appended, and what comes of it let go of -/
theorem wpList_append_sp {Pr : Program} (w : World) {ops : Array Oper} {rest : List Oper} {o : Oper} {a : Act} {Q : Exit → Act → World → Prop}
    (hg : o.guard = none) (s x : Operand) (t : TypeId) (hop : o.op = Op.call { callee := Callee.builtin Builtin.append, args := #[s, x], argTypes := #[t, t] })
    (e : TypeId) (i : TypeInfo) (z : Value) (h1 : Pr.underlying t = some (.slice e)) (h2 : Pr.info? e = some i) (h3 : i.zero = some z) (h4 : i.size = 1) (h5 : i.bytes = 1) (h6 : z.cells.size = 1)
    {D P : Nat → Prop} (hdp : ∀ g, D g → ¬ P g) {W : World} {v : Value} (hs : a.eval s = v) (hb : BySp D w v) (hsp : Sp D P W w)
    (ad : Addr) (c : Nat) (y : Int) (hx : a.eval x = .slice (some ad) 1 c) (hc : w.cell? ad = some (.int .u8 y))
    (hK : ∀ v' w', Sp D P W w' → wpList Pr ops Q rest (a.put o.dst v') w') :
    wpList Pr ops Q (o :: rest) a w := by
  have hc' : ∀ (j : Nat) (u : Value), [Value.int .u8 y][j]? = some u → w.cell? (ad.add j) = some u := by
    intro j u hu
    rcases j with _ | j
    · simp at hu; subst hu
      simpa [Addr.add] using hc
    · simp at hu
  rcases hb with rfl | ⟨b, rfl⟩ | ⟨g, off, n, cap, cur, e', rfl, hd, c1, c2, c3, c4, c5, c6⟩
  · exact wpList_append_grows w hg s x t hop e i z 1 1 h1 h2 h3 h4 h5 h6 (by decide) none 0 0 [] hs (fun _ => ⟨rfl, rfl⟩) rfl (fun b hb => by cases hb) ad 1 c [.int .u8 y] hx rfl hc' (by simp [Value.oneCell']) (by decide) (by unfold maxLen; omega) (by omega) fun v' w' _ hgr => hK v' w' (hsp.grown hgr)
  · exact wpList_append_grows w hg s x t hop e i z 1 1 h1 h2 h3 h4 h5 h6 (by decide) (some b) 0 0 [] hs (fun h => by cases h) rfl (fun b hb j u hu => by simp at hu) ad 1 c [.int .u8 y] hx rfl hc' (by simp [Value.oneCell']) (by decide) (by unfold maxLen; omega) (by omega) fun v' w' _ hgr => hK v' w' (hsp.grown hgr)
  · have hcell : ∀ k, w.cell? ⟨g, k, none⟩ = cur[k]? := fun k => by simp [World.cell?, c4]
    refine wpList_append_arg w hg s x t hop e i z 1 1 h1 h2 h3 h4 h5 h6 (by decide) g off n cap ((cur.toList.drop off).take n) hs (by simp; omega) (fun j u hu => ?_) ad 1 c [.int .u8 y] hx rfl hc' (by simp [Value.oneCell']) (fun hr j hj => ?_) (by unfold maxLen at *; omega) (by omega) (fun hr => ?_) (fun _ v' w' _ hgr => hK v' w' (hsp.grown hgr))
    · rw [hcell]
      rw [List.getElem?_take] at hu
      split at hu
      · rw [List.getElem?_drop] at hu
        simpa using hu
      · cases hu
    · simp at hj; subst hj
      rw [hcell]
      refine ⟨?_, by simp [World.frozen?, c4]⟩
      rw [Array.getElem?_eq_getElem (by omega)]; rfl
    · exact hK _ _ (hsp.setByte hdp hd _ _)

theorem cell_alloc1 (w : World) (v : Value) (e : TypeId) (f : Nat × Nat) : (w.alloc (Obj.cells #[v] e f)).cell? ⟨w.heap.size, 0, none⟩ = some v := by
  have h : (w.alloc (Obj.cells #[v] e f)).heap[w.heap.size]? = some (Obj.cells #[v] e f) := Array.getElem?_push_size
  unfold World.cell?
  rw [h]
  rfl
theorem cell_allocN (w : World) (c : Array Value) (e : TypeId) (f : Nat × Nat) (o : Nat) : (w.alloc (Obj.cells c e f)).cell? ⟨w.heap.size, o, none⟩ = c[o]? := by
  have h : (w.alloc (Obj.cells c e f)).heap[w.heap.size]? = some (Obj.cells c e f) := Array.getElem?_push_size
  unfold World.cell?
  rw [h]
  rfl
theorem cell_far {w : World} {g o b o' : Nat} {v : Value} (h : b ≠ g) : (w.setCell ⟨g, o, none⟩ v).cell? ⟨b, o', none⟩ = w.cell? ⟨b, o', none⟩ := by
  simp only [World.cell?, Below.heap_setCell w ⟨g, o, none⟩ v b h]
theorem info_byte' : (Try.prog.info? 5).map (fun i => (i.zero, i.size, i.bytes)) = some (some (.int .u8 0), 1, 1) := by kernel_rfl
set_option maxRecDepth 100000 in
theorem bytes_sp (D P : Nat → Prop) (hdp : ∀ g, D g → ¬ P g) (v : Value) (w : World) (h : BySp D w v) : Calls Try.prog 29 #[v] w fun e w' => e = .returned (.tuple #[]) ∧ Sp D P w w' := by
  obtain ⟨i0, hi, hz0, hz1, hz2⟩ := info_parts info_byte'
  have HB := h
  have HS := Sp.refl D P w
  rcases h with rfl | ⟨a, rfl⟩ | ⟨g, off, n, cap, cur, e, rfl, hd, h1, h2, h3, h4, h5, h6⟩
  · go_enter Try.func29, Try.ntmps29
    go_wp2
    refine wp_loop_rounds 1 ?_
    rw [rounds_succ]
    go_wp2_with (at_builtin; refine wpList_append_sp _ rfl _ _ 22 rfl 5 i0 (.int .u8 0) Try.underlying22 hi hz0 hz1 hz2 rfl hdp rfl (HB.mono (D := D) (P := P) (Sp.alloc (Sp.refl _ _ _) _)) (HS.alloc _) ⟨_, 0, none⟩ _ 5 rfl (cell_alloc1 _ _ _ _) ?_; intro v' w1 hsp1)
    go_wp2
    go_end0
    exact ⟨rfl, hsp1⟩
  · go_enter Try.func29, Try.ntmps29
    go_wp2
    refine wp_loop_rounds 1 ?_
    rw [rounds_succ]
    go_wp2_with (at_builtin; refine wpList_append_sp _ rfl _ _ 22 rfl 5 i0 (.int .u8 0) Try.underlying22 hi hz0 hz1 hz2 rfl hdp rfl (HB.mono (D := D) (P := P) (Sp.alloc (Sp.refl _ _ _) _)) (HS.alloc _) ⟨_, 0, none⟩ _ 5 rfl (cell_alloc1 _ _ _ _) ?_; intro v' w1 hsp1)
    go_wp2
    go_end0
    exact ⟨rfl, hsp1⟩
  · have HH := hid h6
    clear h6 HB
    go_enter Try.func29, Try.ntmps29
    go_wp2
    go_loopw [2] (fun i wr => ∃ k : Nat, k ≤ n ∧ i = .int .i64 k ∧ Sp D P w wr) (fun i _ => n - (intOf i).toNat)
    case atStart => exact ⟨0, Nat.zero_le _, rfl, HS⟩
    case round =>
      obtain ⟨k, hk, rfl, hS⟩ := hrel
      clear HS
      have HB : BySp D wr (.slice (some ⟨g, off, none⟩) n cap) := BySp.mono (.inr (.inr ⟨g, off, n, cap, cur, e, rfl, hd, h1, h2, h3, h4, h5, HH.out⟩)) hS
      by_cases hkn : k < n
      · obtain ⟨cur', x, g1, g2⟩ : ∃ (cur' : Array Value) (x : Int), wr.heap[g]? = some (.cells cur' e (0, 0)) ∧ cur'[off + k]? = some (.int .u8 x) := by
          obtain ⟨c, a1, a2, a3⟩ := hS.byt g hd cur e h4
          obtain ⟨y, hy⟩ := HH.out k hkn
          obtain ⟨v', b1, b2⟩ := a3 _ _ hy
          rcases b2 with rfl | ⟨z, rfl⟩
          · exact ⟨c, y, a1, b1⟩
          · exact ⟨c, z, a1, b1⟩
        have cx : wr.cell? ⟨g, off + k, none⟩ = some (.int .u8 x) := by simp [World.cell?, g1, g2]
        have fx : wr.frozen? ⟨g, off + k, none⟩ = false := by simp [World.frozen?, g1]
        have HS := hid hS
        clear hS HB g1 g2 h4
        go_wp2
        go_roundw
        case rel => exact ⟨k + 1, by omega, by go_num, HS.out.setByte hdp hd _ _⟩
        case measure => simp [intOf]; omega
      · have HS := hS
        clear hS
        clear h4
        go_wp2_with (at_builtin; refine wpList_append_sp _ rfl _ _ 22 rfl 5 i0 (.int .u8 0) Try.underlying22 hi hz0 hz1 hz2 rfl hdp rfl (HB.mono (D := D) (P := P) (Sp.alloc (Sp.refl _ _ _) _)) (HS.alloc _) ⟨_, 0, none⟩ _ 5 rfl (cell_alloc1 _ _ _ _) ?_; intro v' w1 hsp1)
        go_wp2
        go_end0
        exact ⟨rfl, hsp1⟩

/-- a list of pieces that may be written over -/
def PaSp (D P : Nat → Prop) (w : World) (v : Value) : Prop :=
  v = .slice none 0 0 ∨ (∃ a cap, v = .slice (some a) 0 cap) ∨ ∃ g off n cap cur e, v = .slice (some ⟨g, off, none⟩) n cap ∧ P g ∧ n ≤ 100000000 ∧ w.heap[g]? = some (.cells cur e (0, 0)) ∧ ∀ k, k < n → ∃ x u, cur[off + k * 2]? = some (.int .i64 x) ∧ cur[off + k * 2 + 1]? = some u ∧ BySp D w u
theorem PaSp.row {D P : Nat → Prop} {w wr : World} {g off k : Nat} {cur : Array Value} {e : TypeId} {x : Int} {u : Value} (hp : P g) (h1 : w.heap[g]? = some (.cells cur e (0, 0))) (h2 : cur[off + k * 2]? = some (.int .i64 x)) (h3 : cur[off + k * 2 + 1]? = some u) (h4 : BySp D w u) (S : Sp D P w wr) :
    ∃ cur' y u', wr.heap[g]? = some (.cells cur' e (0, 0)) ∧ cur'[off + k * 2]? = some (.int .i64 y) ∧ cur'[off + k * 2 + 1]? = some u' ∧ BySp D wr u' ∧ ∃ p n c, u' = .slice p n c := by
  obtain ⟨c, a1, a2, a3⟩ := S.prt g hp cur e h1
  obtain ⟨v1, b1, b2⟩ := a3 _ _ h2
  obtain ⟨v2, c1, c2⟩ := a3 _ _ h3
  have hv1 : ∃ y, v1 = .int .i64 y := by
    rcases b2 with rfl | ⟨k', x', y', e1, e2⟩ | ⟨p, n, q, e1, e2⟩
    · exact ⟨x, rfl⟩
    · cases e1; exact ⟨y', e2⟩
    · cases e1
  obtain ⟨y, rfl⟩ := hv1
  have hsl : ∃ p n c, u = .slice p n c := by
    rcases h4 with h | ⟨a, h⟩ | ⟨g', o', n', cap', cu, e', h, _⟩
    · exact ⟨_, _, _, h⟩
    · exact ⟨_, _, _, h⟩
    · exact ⟨_, _, _, h⟩
  rcases c2 with rfl | ⟨k', x', y', e1, e2⟩ | ⟨p, n, q, e1, e2⟩
  · exact ⟨c, y, v2, a1, b1, c1, h4.mono S, hsl⟩
  · obtain ⟨p, n, q, hu⟩ := hsl
    rw [e1] at hu; cases hu
  · exact ⟨c, y, v2, a1, b1, c1, .inl e2, by rw [e2]; exact ⟨_, _, _, rfl⟩⟩
theorem PaSp.mono {D P : Nat → Prop} {w w' : World} {v : Value} (h : PaSp D P w v) (s : Sp D P w w') : PaSp D P w' v := by
  rcases h with h | h | ⟨g, off, n, cap, cur, e, rfl, hp, h1, h2, h3⟩
  · exact .inl h
  · exact .inr (.inl h)
  · obtain ⟨c, a1, a2, a3⟩ := s.prt g hp cur e h2
    refine .inr (.inr ⟨g, off, n, cap, c, e, rfl, hp, h1, a1, fun k hk => ?_⟩)
    obtain ⟨x, u, b1, b2, b3⟩ := h3 k hk
    obtain ⟨c', y, u', d1, d2, d3, d4, _⟩ := PaSp.row hp h2 b1 b2 b3 s
    rw [a1] at d1; cases d1
    exact ⟨y, u', d2, d3, d4⟩
theorem Sp.setPiece {D P : Nat → Prop} {a w : World} (hdp : ∀ g, D g → ¬ P g) (h : Sp D P a w) {g : Nat} (hp : P g) {o : Nat} {cur : Array Value} {e : TypeId} {y : Int} {u : Value} (hg : w.heap[g]? = some (.cells cur e (0, 0))) (h1 : cur[o]? = some (.int .i64 y)) (h2 : cur[o + 1]? = some u) (hu : ∃ p n c, u = .slice p n c) (z : Int) :
    Sp D P a ((w.setCell ⟨g, o, none⟩ (.int .i64 z)).setCell ⟨g, o + 1, none⟩ (.slice none 0 0)) := by
  obtain ⟨p, n, c, rfl⟩ := hu
  have s1 := h.setPart hdp hp o (.int .i64 z) hg h1 (.inr (.inl ⟨_, _, _, rfl, rfl⟩))
  exact s1.setPart hdp hp (o + 1) (.slice none 0 0) (heap_setCell_at hg _) (by rw [Array.getElem?_setIfInBounds_ne (by omega)]; exact h2) (.inr (.inr ⟨_, _, _, rfl, rfl⟩))
theorem Sp.cellFar {D P : Nat → Prop} {w w' : World} (s : Sp D P w w') {g o : Nat} (h0 : g < w.heap.size) (h1 : ¬ D g) (h2 : ¬ P g) : w'.cell? ⟨g, o, none⟩ = w.cell? ⟨g, o, none⟩ := by
  simp only [World.cell?, s.far g h0 h1 h2]
set_option maxRecDepth 100000 in
theorem buffer_sp (D P : Nat → Prop) (hdp : ∀ g, D g → ¬ P g) (nn : Int) (v : Value) (w : World) (hlt : ∀ g, D g ∨ P g → g < w.heap.size) (h : PaSp D P w v) : Calls Try.prog 28 #[.agg #[.int .i64 nn, v]] w fun e w' => e = .returned (.tuple #[]) ∧ Sp D P w w' := by
  have HS := Sp.refl D P w
  rcases h with rfl | ⟨a, cap, rfl⟩ | ⟨g, off, n, cap, cur, e, rfl, hp, h1, h2, h3⟩
  · clear hlt
    go_enter Try.func28, Try.ntmps28
    go_wp2
    refine wp_loop_rounds 1 ?_
    rw [rounds_succ]
    go_wp2
    go_end0
    exact ⟨rfl, HS.alloc _⟩
  · clear hlt
    go_enter Try.func28, Try.ntmps28
    go_wp2
    refine wp_loop_rounds 1 ?_
    rw [rounds_succ]
    go_wp2
    go_end0
    exact ⟨rfl, HS.alloc _⟩
  · have hg := hlt g (.inr hp)
    have nd : ¬ D w.heap.size := fun h => absurd (hlt _ (.inl h)) (by omega)
    have np : ¬ P w.heap.size := fun h => absurd (hlt _ (.inr h)) (by omega)
    have HH := hid h3
    have HL := hid hlt
    clear h3 hlt
    go_enter Try.func28, Try.ntmps28
    go_wp2
    go_loopw [2] (fun i wr => ∃ k : Nat, k ≤ n ∧ i = .int .i64 k ∧ Sp D P w wr ∧ wr.cell? ⟨w.heap.size, 1, none⟩ = some (.slice (some ⟨g, off, none⟩) n cap) ∧ w.heap.size < wr.heap.size) (fun i _ => n - (intOf i).toNat)
    case atStart => exact ⟨0, Nat.zero_le _, rfl, HS.alloc _, (cell_allocN _ _ _ _ 1).trans rfl, by simp⟩
    case round =>
      obtain ⟨k, hk, rfl, hS, hbx, hsz⟩ := hrel
      by_cases hkn : k < n
      · obtain ⟨x, u, r1, r2, r3⟩ := HH.out k hkn
        obtain ⟨cur', y, u', g1, g2, g3, g4, p, m, c, rfl⟩ := PaSp.row hp h2 r1 r2 r3 hS
        have cr : wr.cell? ⟨g, off + k * 2 + 1, none⟩ = some (.slice p m c) := by simp [World.cell?, g1, g3]
        have C := hid (bytes_sp D P hdp _ wr g4)
        have K := hid (fun (w2 : World) (S2 : Sp D P wr w2) => PaSp.row hp h2 r1 r2 r3 (hS.trans S2))
        have H1 := hid hS
        clear hS g1 g2 g3 g4 r1 r2 r3 h2
        go_wp2_with (go_at_call 29; (with_reducible refine (C.out).mono ?_); rintro e2 w2 ⟨rfl, S2⟩; have hbx2 := (S2.cellFar (o := 1) hsz nd np).trans hbx; obtain ⟨cur2, y2, u2, q1, q2, q3, q4, q5⟩ := K.out w2 S2; have f1 : w2.cell? ⟨g, off + k * 2, none⟩ = some (.int .i64 y2) := (by simp [World.cell?, q1, q2]); have f2 : w2.cell? ⟨g, off + k * 2 + 1, none⟩ = some u2 := (by simp [World.cell?, q1, q3]); have f3 : w2.frozen? ⟨g, off + k * 2, none⟩ = false := (by simp [World.frozen?, q1]); have f4 : w2.frozen? ⟨g, off + k * 2 + 1, none⟩ = false := (by simp [World.frozen?, q1]); have Z := hid (Sp.setPiece hdp (H1.out.trans S2) hp q1 q2 q3 q5 (-9)); have Z2 := hid S2.size; clear S2 q1 q2 q3 q4 q5)
        go_roundw
        case rel => exact ⟨k + 1, by omega, by go_num, Z.out, by rw [cell_far (by omega), cell_far (by omega)]; exact hbx2, by have := Z2.out; simp [World.setCell]; omega⟩
        case measure => simp [intOf]; omega
      · go_wp2
        go_end0
        exact ⟨rfl, hS⟩
end Go.Proofs.Ytjmjnndmpeeppaa

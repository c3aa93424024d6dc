/- What is known of the cells of an argument that reads as data, and is no greater than an argument may be. No condition. -/
import Derived.Test.YtjmjnndmpeeppaaRows
import Derived.ProofKit
import Derived.WalkKit
import Derived.Deep.Slices
import Derived.Below
import Derived.SizedLaws
namespace Go.Proofs.Ytjmjnndmpeeppaa
open Go.ChangeShapes Go.WideShapes Go.ChangeAt Go.RowKit
set_option linter.unusedVariables false
set_option linter.unusedSimpArgs false

/-- The cells of a value of type t: of the right kinds; behind a slice there lie such cells. -/
def TypedZ (P : Program) (w : World) : Nat → TypeId → List Value → Prop
  | 0, _, _ => False
  | n + 1, t, cs =>
    match P.underlying t with
    | some .bool => ∃ b, cs = [.bool b]
    | some (.int k) => ∃ i, cs = [.int k i] ∧ k.min ≤ i ∧ i ≤ k.max
    | some (.float k) => ∃ b, cs = [.float k b]
    | some .string => ∃ s, cs = [.string s] ∧ s.size ≤ maxLen
    | some (.slice e) => cs = [.slice none 0 0] ∨ ∃ a len cap, cs = [.slice (some a) len cap] ∧ len ≤ cap ∧ cap ≤ maxLen ∧ len * P.bytesOf e ≤ reachBytes ∧
        ∀ i, i < len → ∃ es, w.cells? 0 (a.add (i * P.cellsOf e)) (P.cellsOf e) = some es ∧ TypedZ P w n e es
    | some (.struct fs) => cs.length = P.cellsOf t ∧ ∀ f ∈ fs.toList, TypedZ P w n f.type ((cs.drop f.offset).take (P.cellsOf f.type))
    | some (.array m e) => cs.length = P.cellsOf t ∧ ∀ i, i < m → TypedZ P w n e ((cs.drop (i * P.cellsOf e)).take (P.cellsOf e))
    | _ => True

theorem mapM_get {α β : Type} (f : α → Option β) : ∀ (l : List α) (ys : List β), l.mapM f = some ys → ys.length = l.length ∧ ∀ (i : Nat) (x : α), l[i]? = some x → ∃ y, f x = some y ∧ ys[i]? = some y
  | [], ys, h => by simp at h; subst h; exact ⟨rfl, by simp⟩
  | a :: l, ys, h => by
    rw [List.mapM_cons] at h
    simp only [Option.bind_eq_bind, Option.bind_eq_some_iff] at h
    obtain ⟨y, hy, zs, hz, e⟩ := h
    simp only [Option.pure_def, Option.some.injEq] at e
    subst e
    obtain ⟨h1, h2⟩ := mapM_get f l zs hz
    refine ⟨by simp [h1], fun i x hx => ?_⟩
    rcases i with _ | i
    · simp at hx; subst hx; exact ⟨y, hy, rfl⟩
    · simpa using h2 i x (by simpa using hx)
theorem weights_all {H : Type} {P : Program} {e : TypeId} : ∀ {ds : List (DataW H)} {d : DataW H}, d ∈ ds → ∀ k ∈ d.weights P e, k ∈ DataW.weightsAll P e ds
  | [], d, h => by cases h
  | a :: ds, d, h => fun k hk => by
    simp only [DataW.weightsAll, List.mem_append]
    rcases List.mem_cons.1 h with rfl | h
    · exact .inl hk
    · exact .inr (weights_all h k hk)
theorem wf_bdZ {k : IntKind} {i : Int} (h : (Lit.int k i).wf = true) : k.min ≤ i ∧ i ≤ k.max := by
  simpa [Lit.wf] using h

theorem typedZ_of_trod {H : Type} {enc : TypeId × Value → H} {P : Program} {w : World} {spare : Nat → Bool} {held : Bool} :
    ∀ (n : Nat) (t : TypeId) (cs : List Value) (x : DataW H × List MemPlace), DataW.trod enc P w 0 spare held n t cs = some x → (∀ k ∈ x.1.weights P t, k ≤ reachBytes) → TypedZ P w n t cs
  | 0, _, _, _, h, _ => by simp [DataW.trod] at h
  | n + 1, t, cs, x, h, hs => by
    unfold TypedZ
    split
    · rename_i hu
      unfold DataW.trod at h; rw [hu] at h
      split at h <;> simp_all
    · rename_i k hu
      unfold DataW.trod at h; rw [hu] at h
      clear hs
      split at h <;> simp_all
      exact wf_bdZ h.1.2
    · rename_i k hu
      unfold DataW.trod at h; rw [hu] at h
      clear hs
      split at h <;> simp_all
    · rename_i hu
      unfold DataW.trod at h; rw [hu] at h
      clear hs
      split at h <;> simp_all
    · rename_i e hu
      rcases Deep.open_slice hu h with ⟨rfl, _⟩ | ⟨a, len, cap, m, n', D, Pl, rfl, _, hl, hm, hmm, _, hx⟩
      · exact .inl rfl
      · unfold DataW.trod at h; rw [hu] at h
        simp only at h
        rw [if_pos ⟨Nat.zero_le _, hl, hm⟩] at h
        simp only [Option.bind_eq_some_iff] at h
        obtain ⟨elems, he, h3⟩ := h
        rw [Option.map_eq_some_iff] at h3
        obtain ⟨rest, hrest, rfl⟩ := h3
        obtain ⟨g1, g2⟩ := mapM_get _ _ _ he
        simp only [List.length_range] at g1
        simp only [DataW.weights, hu, List.mem_cons, List.mem_append] at hs
        refine .inr ⟨a, len, cap, rfl, hl, hm, ?_, fun i hi => ?_⟩
        · have h4 := hs _ (.inl rfl)
          simp only [List.length_map, g1] at h4
          exact Nat.le_trans (Nat.mul_le_mul_right _ (Nat.le_add_right _ _)) h4
        · obtain ⟨y, hy, hye⟩ := g2 i i (by simp [hi])
          simp only [Option.bind_eq_some_iff] at hy
          obtain ⟨es, h1, h2⟩ := hy
          exact ⟨es, h1, typedZ_of_trod n e es y h2 fun k hk => hs k (.inr (.inl (weights_all (List.mem_map.2 ⟨y, List.mem_of_getElem? hye, rfl⟩) k hk)))⟩
    · rename_i fs hu
      unfold DataW.trod at h; rw [hu] at h
      have h' : (if cs.length = P.cellsOf t then (fs.toList.mapM fun f => DataW.trod enc P w 0 spare held n f.type ((cs.drop f.offset).take (P.cellsOf f.type))).map fun xs => (DataW.agg (xs.map (·.1)), xs.flatMap (·.2)) else none) = some x := by
        simpa using h
      split at h'
      · rename_i hlen
        refine ⟨hlen, fun f hf => ?_⟩
        rw [Option.map_eq_some_iff] at h'
        obtain ⟨xs, hxs, rfl⟩ := h'
        obtain ⟨i, hi⟩ := List.mem_iff_getElem?.1 hf
        obtain ⟨y, hy, hye⟩ := (mapM_get _ _ _ hxs).2 i f hi
        simp only [DataW.weights, hu] at hs
        exact typedZ_of_trod n _ _ y hy fun k hk => hs k (DataW.weights_mem_each (j := i) (by simp [hi]) (by simp [hye]) k hk)
      · cases h'
    · rename_i m e hu
      unfold DataW.trod at h; rw [hu] at h
      have h' : (if cs.length = P.cellsOf t then ((List.range m).mapM fun i => DataW.trod enc P w 0 spare held n e ((cs.drop (i * P.cellsOf e)).take (P.cellsOf e))).map fun xs => (DataW.agg (xs.map (·.1)), xs.flatMap (·.2)) else none) = some x := by
        simpa using h
      split at h'
      · rename_i hlen
        refine ⟨hlen, fun i hi => ?_⟩
        rw [Option.map_eq_some_iff] at h'
        obtain ⟨xs, hxs, rfl⟩ := h'
        obtain ⟨y, hy, hye⟩ := (mapM_get _ _ _ hxs).2 i i (by simp [hi])
        simp only [DataW.weights, hu] at hs
        exact typedZ_of_trod n _ _ y hy fun k hk => hs k (weights_all (List.mem_map.2 ⟨y, List.mem_of_getElem? hye, rfl⟩) k hk)
      · cases h'
    · trivial
end Go.Proofs.Ytjmjnndmpeeppaa

/- What is known of the cells of an argument that reads as data. No condition. -/
import Derived.Test.YtjmjnndmpeeppaaRows
import Derived.ProofKit
import Derived.WalkKit
import Derived.Deep.Slices
import Derived.Below
namespace Go.Proofs.Ytjmjnndmpeeppaa
open Go.ChangeShapes Go.WideShapes Go.ChangeAt Go.RowKit
set_option linter.unusedVariables false
set_option linter.unusedSimpArgs false

/-- The cells of a value of type t: of the right kinds; behind a slice there lie such cells. -/
def Typed (P : Program) (w : World) : Nat → TypeId → List Value → Prop
  | 0, _, _ => False
  | n + 1, t, cs =>
    match P.underlying t with
    | some .bool => ∃ b, cs = [.bool b]
    | some (.int k) => ∃ i, cs = [.int k i] ∧ k.min ≤ i ∧ i ≤ k.max
    | some (.float k) => ∃ b, cs = [.float k b]
    | some .string => ∃ s, cs = [.string s] ∧ s.size ≤ maxLen
    | some (.slice e) => cs = [.slice none 0 0] ∨ ∃ a len cap, cs = [.slice (some a) len cap] ∧ len ≤ cap ∧ cap ≤ maxLen ∧
        ∀ i, i < len → ∃ es, w.cells? 0 (a.add (i * P.cellsOf e)) (P.cellsOf e) = some es ∧ Typed P w n e es
    | some (.struct fs) => cs.length = P.cellsOf t ∧ ∀ f ∈ fs.toList, Typed P w n f.type ((cs.drop f.offset).take (P.cellsOf f.type))
    | some (.array m e) => cs.length = P.cellsOf t ∧ ∀ i, i < m → Typed P w n e ((cs.drop (i * P.cellsOf e)).take (P.cellsOf e))
    | _ => True

theorem mapM_mem {α β : Type} (f : α → Option β) : ∀ (l : List α) (ys : List β), l.mapM f = some ys → ∀ x ∈ l, ∃ y, f x = some y
  | [], _, _, x, hx => by cases hx
  | a :: l, ys, h, x, hx => by
    rw [List.mapM_cons] at h
    simp only [Option.bind_eq_bind, Option.bind_eq_some_iff] at h
    obtain ⟨y, hy, zs, hz, _⟩ := h
    rcases List.mem_cons.1 hx with rfl | hx
    · exact ⟨y, hy⟩
    · exact mapM_mem f l zs hz x hx

theorem wf_bd {k : IntKind} {i : Int} (h : (Lit.int k i).wf = true) : k.min ≤ i ∧ i ≤ k.max := by
  simpa [Lit.wf] using h

theorem typed_of_trod {H : Type} {enc : TypeId × Value → H} {P : Program} {w : World} {spare : Nat → Bool} {held : Bool} :
    ∀ (n : Nat) (t : TypeId) (cs : List Value) (x : DataW H × List MemPlace), DataW.trod enc P w 0 spare held n t cs = some x → Typed P w n t cs
  | 0, _, _, _, h => by simp [DataW.trod] at h
  | n + 1, t, cs, x, h => by
    unfold Typed
    split
    · rename_i hu
      unfold DataW.trod at h; rw [hu] at h
      split at h <;> simp_all
    · rename_i k hu
      unfold DataW.trod at h; rw [hu] at h
      split at h <;> simp_all
      exact wf_bd h.1.2
    · rename_i k hu
      unfold DataW.trod at h; rw [hu] at h
      split at h <;> simp_all
    · rename_i hu
      unfold DataW.trod at h; rw [hu] at h
      split at h <;> simp_all
    · rename_i e hu
      rcases Deep.open_slice hu h with ⟨rfl, _⟩ | ⟨a, len, cap, m, n', D, Pl, rfl, _, hl, hm, hmm, _, hx⟩
      · exact .inl rfl
      · refine .inr ⟨a, len, cap, rfl, hl, hm, fun i hi => ?_⟩
        have hu' := hu
        unfold DataW.trod at h; rw [hu] at h
        simp only at h
        rw [if_pos ⟨Nat.zero_le _, hl, hm⟩] at h
        simp only [Option.bind_eq_some_iff] at h
        obtain ⟨elems, he, _⟩ := h
        obtain ⟨y, hy⟩ := mapM_mem _ _ _ he i (List.mem_range.2 hi)
        simp only [Option.bind_eq_some_iff] at hy
        obtain ⟨es, h1, h2⟩ := hy
        exact ⟨es, h1, typed_of_trod n e es y h2⟩
    · rename_i fs hu
      unfold DataW.trod at h; rw [hu] at h
      have h' : (if cs.length = P.cellsOf t then (fs.toList.mapM fun f => DataW.trod enc P w 0 spare held n f.type ((cs.drop f.offset).take (P.cellsOf f.type))).map fun xs => (DataW.agg (xs.map (·.1)), xs.flatMap (·.2)) else none) = some x := by
        simpa using h
      split at h'
      · rename_i hlen
        refine ⟨hlen, fun f hf => ?_⟩
        rw [Option.map_eq_some_iff] at h'
        obtain ⟨xs, hxs, _⟩ := h'
        obtain ⟨y, hy⟩ := mapM_mem _ _ _ hxs f hf
        exact typed_of_trod n _ _ y hy
      · cases h'
    · rename_i m e hu
      unfold DataW.trod at h; rw [hu] at h
      have h' : (if cs.length = P.cellsOf t then ((List.range m).mapM fun i => DataW.trod enc P w 0 spare held n e ((cs.drop (i * P.cellsOf e)).take (P.cellsOf e))).map fun xs => (DataW.agg (xs.map (·.1)), xs.flatMap (·.2)) else none) = some x := by
        simpa using h
      split at h'
      · rename_i hlen
        refine ⟨hlen, fun i hi => ?_⟩
        rw [Option.map_eq_some_iff] at h'
        obtain ⟨xs, hxs, _⟩ := h'
        obtain ⟨y, hy⟩ := mapM_mem _ _ _ hxs i (List.mem_range.2 hi)
        exact typed_of_trod n _ _ y hy
      · cases h'
    · trivial
end Go.Proofs.Ytjmjnndmpeeppaa

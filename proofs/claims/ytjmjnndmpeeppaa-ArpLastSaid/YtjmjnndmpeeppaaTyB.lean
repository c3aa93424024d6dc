/- Arguments' types: numbers, booleans, bytes. No condition. -/
import Derived.Test.YtjmjnndmpeeppaaRead
import Derived.KernelRfl
namespace Go.Proofs.Ytjmjnndmpeeppaa
open Go.RowKit
set_option linter.unusedVariables false
set_option linter.unusedSimpArgs false
set_option maxRecDepth 100000

abbrev inI (i : Int) : Prop := -9223372036854775808 ≤ i ∧ i ≤ 9223372036854775807
theorem cells_int : Try.prog.cellsOf 3 = 1 := by kernel_rfl
theorem cells_bytes : Try.prog.cellsOf 22 = 1 := by kernel_rfl
theorem cells_byte : Try.prog.cellsOf 5 = 1 := by kernel_rfl
theorem ty_int {q : Nat} {avs : List AV} (h : TyAV Try.prog (q + 1) 3 avs) : ∃ i, avs = [.val (.int .i64 i)] ∧ inI i := by
  simp only [TyAV, Try.underlying3] at h; exact h
theorem ty_byte {q : Nat} {avs : List AV} (h : TyAV Try.prog (q + 1) 5 avs) : ∃ i, avs = [.val (.int .u8 i)] ∧ 0 ≤ i ∧ i ≤ 255 := by
  simp only [TyAV, Try.underlying5] at h; exact h
/-- rows of a shape -/
theorem rows_shape {α : Type} {P : List AV → Prop} {f : α → List AV} {Q : α → Prop} (H : ∀ row, P row → ∃ x, row = f x ∧ Q x) : ∀ (rows : List (List AV)), (∀ row ∈ rows, P row) → ∃ xs : List α, rows = xs.map f ∧ ∀ x ∈ xs, Q x
  | [], _ => ⟨[], rfl, by simp⟩
  | row :: rows, h => by
    obtain ⟨x, rfl, hx⟩ := H row (h row (by simp))
    obtain ⟨xs, rfl, hxs⟩ := rows_shape H rows fun r hr => h r (by simp [hr])
    exact ⟨x :: xs, rfl, by simpa using ⟨hx, hxs⟩⟩
theorem ty_bytes {q : Nat} {avs : List AV} (h : TyAV Try.prog (q + 2) 22 avs) : ∃ xs : List Int, avs = [.list 0 1 (xs.map fun x => [.val (.int .u8 x)])] ∧ ∀ x ∈ xs, 0 ≤ x ∧ x ≤ 255 := by
  unfold TyAV at h
  rw [Try.underlying22] at h
  obtain ⟨rows, e, _, hr⟩ := h
  obtain ⟨xs, rfl, hx⟩ := rows_shape (f := fun x => [.val (.int .u8 x)]) (fun row (h : _ ∧ _) => ty_byte h.2) rows hr
  exact ⟨xs, by rw [e, cells_byte], hx⟩
end Go.Proofs.Ytjmjnndmpeeppaa

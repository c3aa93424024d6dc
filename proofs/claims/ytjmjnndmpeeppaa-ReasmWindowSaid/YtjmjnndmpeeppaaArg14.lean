/- The arguments of the statements on reassembling as data. No condition. -/
import Derived.Test.YtjmjnndmpeeppaaTyB
import Derived.Test.YtjmjnndmpeeppaaAhWake
namespace Go.Proofs.Ytjmjnndmpeeppaa
open Go.RowKit
set_option linter.unusedVariables false
set_option linter.unusedSimpArgs false
set_option maxRecDepth 100000

theorem cells_ints : Try.prog.cellsOf 23 = 1 := by kernel_rfl
theorem ty_ints {q : Nat} {avs : List AV} (h : TyAV Try.prog (q + 2) 23 avs) : ∃ xs : List Int, avs = [.list 0 1 (xs.map fun x => [.val (.int .i64 x)])] := by
  unfold TyAV at h
  rw [Try.underlying23] at h
  obtain ⟨rows, e, _, hr⟩ := h
  obtain ⟨xs, rfl, hx⟩ := rows_shape (f := fun x => [.val (.int .i64 x)]) (fun row (h : _ ∧ _) => ty_int h.2) rows hr
  exact ⟨xs, by rw [e, cells_int]⟩
theorem cells_stream : Try.prog.cellsOf 25 = 4 := by kernel_rfl
theorem ty_stream {avs : List AV} (h : TyAV Try.prog 8 25 avs) : ∃ (b : List Int) (fr : Int) (a : List Int) (size : Int), avs = strC b fr a size ∧ (∀ x ∈ b, 0 ≤ x ∧ x ≤ 255) ∧ inI fr ∧ inI size := by
  unfold TyAV at h
  rw [Try.underlying25] at h
  obtain ⟨hl, hx⟩ := h
  rw [cells_stream] at hl
  match avs, hl with
  | [c0, c1, c2, c3], _ =>
    simp only [List.forall_mem_cons, cells_int, cells_bytes, cells_ints, List.drop, List.take] at hx
    obtain ⟨h0, h1, h2, h3, -⟩ := hx
    obtain ⟨b, e0, b0⟩ := ty_bytes h0
    obtain ⟨fr, e1, b1⟩ := ty_int h1
    obtain ⟨a, e2⟩ := ty_ints h2
    obtain ⟨size, e3, b3⟩ := ty_int h3
    simp only [List.cons.injEq, and_true] at e0 e1 e2 e3
    subst e0 e1 e2 e3
    exact ⟨_, _, _, _, rfl, b0, b1, b3⟩
end Go.Proofs.Ytjmjnndmpeeppaa

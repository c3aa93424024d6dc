/- The argument of the statements on frames as data. No condition. -/
import Derived.Test.YtkcjdigbfcnhbaaTyB
import Derived.Test.YtkcjdigbfcnhbaaAhEtherX
namespace Go.Proofs.Ytkcjdigbfcnhbaa
open Go.RowKit
set_option linter.unusedVariables false

theorem cells_frame : Try.prog.cellsOf 35 = 4 := by kernel_rfl
theorem cells_ask8 : Try.prog.cellsOf 37 = 5 := by kernel_rfl
theorem ty_frame {q : Nat} {avs : List AV} (h : TyAV Try.prog (q + 3) 35 avs) : ∃ f : Fr, avs = frC 0 f ∧ ∀ x ∈ f.x, 0 ≤ x ∧ x ≤ 255 := by
  unfold TyAV at h
  rw [Try.underlying35] at h
  obtain ⟨hl, hx⟩ := h
  rw [cells_frame] at hl
  match avs, hl with
  | [c0, c1, c2, c3], _ =>
    simp only [List.forall_mem_cons, cells_int, cells_bytes, List.drop, List.take] at hx
    obtain ⟨h0, h1, h2, h3, -⟩ := hx
    obtain ⟨d, e0, _⟩ := ty_int h0
    obtain ⟨s, e1, _⟩ := ty_int h1
    obtain ⟨t, e2, _⟩ := ty_int h2
    obtain ⟨x, e3, b3⟩ := ty_bytes h3
    simp only [List.cons.injEq, and_true] at e0 e1 e2 e3
    subst e0 e1 e2 e3
    exact ⟨⟨d, s, t, x⟩, rfl, b3⟩
theorem ty_ask8 {q : Nat} {avs : List AV} (h : TyAV Try.prog (q + 4) 37 avs) : ∃ a : Fr × List Int, avs = askR a ∧ ∀ x ∈ a.2, 0 ≤ x ∧ x ≤ 255 := by
  unfold TyAV at h
  rw [Try.underlying37] at h
  obtain ⟨hl, hx⟩ := h
  rw [cells_ask8] at hl
  match avs, hl with
  | [c0, c1, c2, c3, c4], _ =>
    simp only [List.forall_mem_cons, cells_frame, cells_bytes, List.drop, List.take] at hx
    obtain ⟨h0, h1, -⟩ := hx
    obtain ⟨f, e0, _⟩ := ty_frame h0
    obtain ⟨x, e1, b1⟩ := ty_bytes h1
    simp only [List.cons.injEq, and_true] at e0 e1
    obtain ⟨e0, e2, e3, e4⟩ := e0
    subst e0 e1 e2 e3 e4
    exact ⟨(f, x), rfl, b1⟩
theorem ty_asks8 {avs : List AV} (h : TyAV Try.prog 8 31 avs) : ∃ asks : List (Fr × List Int), avs = [.list 0 5 (asks.map askR)] ∧ ∀ a ∈ asks, ∀ x ∈ a.2, 0 ≤ x ∧ x ≤ 255 := by
  unfold TyAV at h
  rw [Try.underlying31] at h
  obtain ⟨rows, e, _, hr⟩ := h
  obtain ⟨xs, rfl, hx⟩ := rows_shape (fun row (h : _ ∧ _) => ty_ask8 (q := 3) h.2) rows hr
  exact ⟨xs, by rw [e, cells_ask8], hx⟩
end Go.Proofs.Ytkcjdigbfcnhbaa

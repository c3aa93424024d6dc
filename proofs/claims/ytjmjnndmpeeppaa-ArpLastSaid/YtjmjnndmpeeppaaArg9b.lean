/- The arguments of the statements on neighbours as data. No condition. -/
import Derived.Test.YtjmjnndmpeeppaaTyB
import Derived.Test.YtjmjnndmpeeppaaAhNb
namespace Go.Proofs.Ytjmjnndmpeeppaa
open Go.RowKit
set_option linter.unusedVariables false
set_option linter.unusedSimpArgs false
set_option maxRecDepth 100000

theorem cells_nb : Try.prog.cellsOf 74 = 3 := by kernel_rfl
theorem cells_act9 : Try.prog.cellsOf 64 = 3 := by kernel_rfl
theorem cells_nbs : Try.prog.cellsOf 59 = 1 := by kernel_rfl
theorem cells_act9s : Try.prog.cellsOf 60 = 1 := by kernel_rfl
theorem cells_script9 : Try.prog.cellsOf 62 = 2 := by kernel_rfl
theorem ty_nb {q : Nat} {avs : List AV} (h : TyAV Try.prog (q + 2) 74 avs) : ∃ a : Nb, avs = nbR a ∧ True := by
  unfold TyAV at h
  rw [Try.underlying74] at h
  obtain ⟨hl, hx⟩ := h
  rw [cells_nb] at hl
  match avs, hl with
  | [c0, c1, c2], _ =>
    simp only [List.forall_mem_cons, cells_int, List.drop, List.take] at hx
    obtain ⟨h0, h1, h2, -⟩ := hx
    obtain ⟨i0, e0, _⟩ := ty_int h0
    obtain ⟨i1, e1, _⟩ := ty_int h1
    obtain ⟨i2, e2, _⟩ := ty_int h2
    simp only [List.cons.injEq, and_true] at e0 e1 e2
    subst e0 e1 e2
    exact ⟨(i0, i1, i2), rfl, trivial⟩
theorem ty_act9 {q : Nat} {avs : List AV} (h : TyAV Try.prog (q + 2) 64 avs) : ∃ a : Nb, avs = nbR a ∧ True := by
  unfold TyAV at h
  rw [Try.underlying64] at h
  obtain ⟨hl, hx⟩ := h
  rw [cells_act9] at hl
  match avs, hl with
  | [c0, c1, c2], _ =>
    simp only [List.forall_mem_cons, cells_int, List.drop, List.take] at hx
    obtain ⟨h0, h1, h2, -⟩ := hx
    obtain ⟨i0, e0, _⟩ := ty_int h0
    obtain ⟨i1, e1, _⟩ := ty_int h1
    obtain ⟨i2, e2, _⟩ := ty_int h2
    simp only [List.cons.injEq, and_true] at e0 e1 e2
    subst e0 e1 e2
    exact ⟨(i0, i1, i2), rfl, trivial⟩
theorem ty_nbs {q : Nat} {avs : List AV} (h : TyAV Try.prog (q + 3) 59 avs) : ∃ l : List Nb, avs = [.list 0 3 (l.map nbR)] := by
  unfold TyAV at h
  rw [Try.underlying59] at h
  obtain ⟨rows, e, _, hr⟩ := h
  obtain ⟨xs, rfl, hx⟩ := rows_shape (f := nbR) (fun row (h : _ ∧ _) => ty_nb h.2) rows hr
  exact ⟨xs, by rw [e, cells_nb]⟩
theorem ty_act9s {q : Nat} {avs : List AV} (h : TyAV Try.prog (q + 3) 60 avs) : ∃ l : List Nb, avs = [.list 0 3 (l.map nbR)] := by
  unfold TyAV at h
  rw [Try.underlying60] at h
  obtain ⟨rows, e, _, hr⟩ := h
  obtain ⟨xs, rfl, hx⟩ := rows_shape (f := nbR) (fun row (h : _ ∧ _) => ty_act9 h.2) rows hr
  exact ⟨xs, by rw [e, cells_act9]⟩
theorem ty_script9 {avs : List AV} (h : TyAV Try.prog 8 62 avs) : ∃ N L : List Nb, avs = [.list 0 3 (N.map nbR), .list 0 3 (L.map nbR)] := by
  unfold TyAV at h
  rw [Try.underlying62] at h
  obtain ⟨hl, hx⟩ := h
  rw [cells_script9] at hl
  match avs, hl with
  | [c0, c1], _ =>
    simp only [List.forall_mem_cons, cells_nbs, cells_act9s, List.drop, List.take] at hx
    obtain ⟨h0, h1, -⟩ := hx
    obtain ⟨N, e0⟩ := ty_nbs h0
    obtain ⟨L, e1⟩ := ty_act9s h1
    simp only [List.cons.injEq, and_true] at e0 e1
    subst e0 e1
    exact ⟨N, L, rfl⟩
end Go.Proofs.Ytjmjnndmpeeppaa

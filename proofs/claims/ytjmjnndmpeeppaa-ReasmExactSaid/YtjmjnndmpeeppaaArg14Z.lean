/- The argument of the statement on reassembling as data. No condition. -/
import Derived.Test.YtjmjnndmpeeppaaTyZ
import Derived.Test.YtjmjnndmpeeppaaAhExact
namespace Go.Proofs.Ytjmjnndmpeeppaa
open Go.RowKit
set_option linter.unusedVariables false
set_option linter.unusedSimpArgs false
set_option maxRecDepth 100000

theorem cells_part : Try.prog.cellsOf 40 = 2 := by kernel_rfl
theorem cells_parts : Try.prog.cellsOf 27 = 1 := by kernel_rfl
theorem size_part : Try.prog.bytesOf 40 = 32 := by kernel_rfl
theorem cells_buffer : Try.prog.cellsOf 29 = 2 := by kernel_rfl
theorem ty_part {q : Nat} {avs : List AV} (h : TyZV Try.prog (q + 3) 40 avs) : ∃ p : Pt, avs = prt 0 p ∧ isBs p.2 := by
  unfold TyZV at h
  rw [Try.underlying40] at h
  obtain ⟨hl, hx⟩ := h
  rw [cells_part] at hl
  match avs, hl with
  | [c0, c1], _ =>
    simp only [List.forall_mem_cons, cells_int, cells_bytes, List.drop, List.take] at hx
    obtain ⟨h0, h1, -⟩ := hx
    obtain ⟨i, e0, b0⟩ := ty_int h0
    obtain ⟨x, e1, b1⟩ := ty_bytes h1
    simp only [List.cons.injEq, and_true] at e0 e1
    subst e0 e1
    exact ⟨(i, x), rfl, b1⟩
theorem ty_parts {q : Nat} {avs : List AV} (h : TyZV Try.prog (q + 4) 27 avs) : ∃ ps : List Pt, avs = [.list 0 2 (ps.map (prt 0))] ∧ ps.length ≤ 140737488351232 ∧ ∀ p ∈ ps, isBs p.2 := by
  unfold TyZV at h
  rw [Try.underlying27] at h
  obtain ⟨rows, e, _, hz, hr⟩ := h
  obtain ⟨xs, rfl, hx⟩ := rows_shape (f := prt 0) (fun row (h : _ ∧ _) => ty_part (q := q) h.2) rows hr
  rw [size_part, List.length_map] at hz
  exact ⟨xs, by rw [e, cells_part], by have := reach_lt; omega, hx⟩
theorem ty_buffer {q : Nat} {avs : List AV} (h : TyZV Try.prog (q + 5) 29 avs) : ∃ (n : Int) (ps : List Pt), avs = [.val (.int .i64 n), .list 0 2 (ps.map (prt 0))] ∧ ps.length ≤ 140737488351232 ∧ ∀ p ∈ ps, isBs p.2 := by
  unfold TyZV at h
  rw [Try.underlying29] at h
  obtain ⟨hl, hx⟩ := h
  rw [cells_buffer] at hl
  match avs, hl with
  | [c0, c1], _ =>
    simp only [List.forall_mem_cons, cells_int, cells_parts, List.drop, List.take] at hx
    obtain ⟨h0, h1, -⟩ := hx
    obtain ⟨i, e0, b0⟩ := ty_int h0
    obtain ⟨ps, e1, b1, b2⟩ := ty_parts h1
    simp only [List.cons.injEq, and_true] at e0 e1
    subst e0 e1
    exact ⟨i, ps, rfl, b1, b2⟩
theorem cells_piece14 : Try.prog.cellsOf 49 = 2 := by kernel_rfl
theorem cells_pieces14 : Try.prog.cellsOf 41 = 1 := by kernel_rfl
theorem size_piece14 : Try.prog.bytesOf 49 = 32 := by kernel_rfl
theorem cells_script14 : Try.prog.cellsOf 43 = 3 := by kernel_rfl
theorem ty_piece14 {q : Nat} {avs : List AV} (h : TyZV Try.prog (q + 3) 49 avs) : ∃ p : Pt, avs = prt 0 p ∧ isBs p.2 := by
  unfold TyZV at h
  rw [Try.underlying49] at h
  obtain ⟨hl, hx⟩ := h
  rw [cells_piece14] at hl
  match avs, hl with
  | [c0, c1], _ =>
    simp only [List.forall_mem_cons, cells_int, cells_bytes, List.drop, List.take] at hx
    obtain ⟨h0, h1, -⟩ := hx
    obtain ⟨i, e0, b0⟩ := ty_int h0
    obtain ⟨x, e1, b1⟩ := ty_bytes h1
    simp only [List.cons.injEq, and_true] at e0 e1
    subst e0 e1
    exact ⟨(i, x), rfl, b1⟩
theorem ty_pieces14 {q : Nat} {avs : List AV} (h : TyZV Try.prog (q + 4) 41 avs) : ∃ ps : List Pt, avs = [.list 0 2 (ps.map (prt 0))] ∧ ps.length ≤ 140737488351232 ∧ ∀ p ∈ ps, isBs p.2 := by
  unfold TyZV at h
  rw [Try.underlying41] at h
  obtain ⟨rows, e, _, hz, hr⟩ := h
  obtain ⟨xs, rfl, hx⟩ := rows_shape (f := prt 0) (fun row (h : _ ∧ _) => ty_piece14 (q := q) h.2) rows hr
  rw [size_piece14, List.length_map] at hz
  exact ⟨xs, by rw [e, cells_piece14], by have := reach_lt; omega, hx⟩
theorem ty_script14 {avs : List AV} (h : TyZV Try.prog 8 43 avs) : ∃ (n : Int) (ps l : List Pt), avs = [.val (.int .i64 n), .list 0 2 (ps.map (prt 0)), .list 0 2 (l.map (prt 0))] ∧ (ps.length ≤ 140737488351232 ∧ ∀ p ∈ ps, isBs p.2) ∧ l.length ≤ 140737488351232 ∧ ∀ p ∈ l, isBs p.2 := by
  unfold TyZV at h
  rw [Try.underlying43] at h
  obtain ⟨hl, hx⟩ := h
  rw [cells_script14] at hl
  match avs, hl with
  | [c0, c1, c2], _ =>
    simp only [List.forall_mem_cons, cells_buffer, cells_pieces14, List.drop, List.take] at hx
    obtain ⟨h0, h1, -⟩ := hx
    obtain ⟨n, ps, e0, b0, b1⟩ := ty_buffer (q := 2) h0
    obtain ⟨l, e1, b2, b3⟩ := ty_pieces14 (q := 3) h1
    simp only [List.cons.injEq, and_true] at e0 e1
    obtain ⟨e0, e2⟩ := e0
    subst e0 e1 e2
    exact ⟨n, ps, l, rfl, ⟨b0, b1⟩, b2, b3⟩
end Go.Proofs.Ytjmjnndmpeeppaa

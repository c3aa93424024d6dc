/- The arguments of the statements on ARP as data. No condition. -/
import Derived.Test.YtjmjnndmpeeppaaTyB
import Derived.Test.YtjmjnndmpeeppaaAhArpX
namespace Go.Proofs.Ytjmjnndmpeeppaa
open Go.RowKit
set_option linter.unusedVariables false
set_option maxRecDepth 100000

theorem cells_bool : Try.prog.cellsOf 4 = 1 := by kernel_rfl
theorem ty_bool {q : Nat} {avs : List AV} (h : TyAV Try.prog (q + 1) 4 avs) : ∃ b, avs = [.val (.bool b)] := by
  simp only [TyAV, Try.underlying4] at h; exact h
theorem cells_arp : Try.prog.cellsOf 82 = 5 := by kernel_rfl
theorem cells_ask9 : Try.prog.cellsOf 84 = 6 := by kernel_rfl
theorem ty_arp {q : Nat} {avs : List AV} (h : TyAV Try.prog (q + 2) 82 avs) : ∃ a : Ar, avs = arC a := by
  unfold TyAV at h
  rw [Try.underlying82] at h
  obtain ⟨hl, hx⟩ := h
  rw [cells_arp] at hl
  match avs, hl with
  | [c0, c1, c2, c3, c4], _ =>
    simp only [List.forall_mem_cons, cells_int, cells_bool, List.drop, List.take] at hx
    obtain ⟨h0, h1, h2, h3, h4, -⟩ := hx
    obtain ⟨b, e0⟩ := ty_bool h0
    obtain ⟨i1, e1, _⟩ := ty_int h1
    obtain ⟨i2, e2, _⟩ := ty_int h2
    obtain ⟨i3, e3, _⟩ := ty_int h3
    obtain ⟨i4, e4, _⟩ := ty_int h4
    simp only [List.cons.injEq, and_true] at e0 e1 e2 e3 e4
    subst e0 e1 e2 e3 e4
    exact ⟨⟨b, i1, i2, i3, i4⟩, rfl⟩
theorem ty_ask9 {q : Nat} {avs : List AV} (h : TyAV Try.prog (q + 3) 84 avs) : ∃ a : Ar × List Int, avs = askR9 a ∧ ∀ x ∈ a.2, 0 ≤ x ∧ x ≤ 255 := by
  unfold TyAV at h
  rw [Try.underlying84] at h
  obtain ⟨hl, hx⟩ := h
  rw [cells_ask9] at hl
  match avs, hl with
  | [c0, c1, c2, c3, c4, c5], _ =>
    simp only [List.forall_mem_cons, cells_arp, cells_bytes, List.drop, List.take] at hx
    obtain ⟨h0, h1, -⟩ := hx
    obtain ⟨f, e0⟩ := ty_arp h0
    obtain ⟨x, e1, b1⟩ := ty_bytes h1
    simp only [List.cons.injEq, and_true] at e0 e1
    obtain ⟨e0, e2, e3, e4, e5⟩ := e0
    subst e0 e1 e2 e3 e4 e5
    exact ⟨(f, x), rfl, b1⟩
theorem ty_asks9 {avs : List AV} (h : TyAV Try.prog 8 80 avs) : ∃ asks : List (Ar × List Int), avs = [.list 0 6 (asks.map askR9)] ∧ ∀ a ∈ asks, ∀ x ∈ a.2, 0 ≤ x ∧ x ≤ 255 := by
  unfold TyAV at h
  rw [Try.underlying80] at h
  obtain ⟨rows, e, _, hr⟩ := h
  obtain ⟨xs, rfl, hx⟩ := rows_shape (fun row (h : _ ∧ _) => ty_ask9 (q := 4) h.2) rows hr
  exact ⟨xs, by rw [e, cells_ask9], hx⟩
end Go.Proofs.Ytjmjnndmpeeppaa

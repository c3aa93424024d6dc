/- The argument of the statements on timers as data. No condition. -/
import Derived.Test.YtkcjdigbfcnhbaaRead
import Derived.KernelRfl
namespace Go.Proofs.Ytkcjdigbfcnhbaa
open Go.RowKit
set_option linter.unusedVariables false

abbrev inI (i : Int) : Prop := -9223372036854775808 ≤ i ∧ i ≤ 9223372036854775807
theorem cells_int : Try.prog.cellsOf 3 = 1 := by kernel_rfl
theorem cells_bool : Try.prog.cellsOf 4 = 1 := by kernel_rfl
theorem ty_int {q : Nat} {avs : List AV} (h : TyAV Try.prog (q + 1) 3 avs) : ∃ i, avs = [.val (.int .i64 i)] ∧ inI i := by
  simp only [TyAV, Try.underlying3] at h; exact h
theorem ty_bool {q : Nat} {avs : List AV} (h : TyAV Try.prog (q + 1) 4 avs) : ∃ b, avs = [.val (.bool b)] := by
  simp only [TyAV, Try.underlying4] at h; exact h
/-- rows of a shape -/
theorem rows_shape {α : Type} {P : List AV → Prop} {f : α → List AV} {Q : α → Prop} (H : ∀ row, P row → ∃ x, row = f x ∧ Q x) : ∀ (rows : List (List AV)), (∀ row ∈ rows, P row) → ∃ xs : List α, rows = xs.map f ∧ ∀ x ∈ xs, Q x
  | [], _ => ⟨[], rfl, by simp⟩
  | row :: rows, h => by
    obtain ⟨x, rfl, hx⟩ := H row (h row (by simp))
    obtain ⟨xs, rfl, hxs⟩ := rows_shape H rows fun r hr => h r (by simp [hr])
    exact ⟨x :: xs, rfl, by simpa using ⟨hx, hxs⟩⟩

theorem cells_timer : Try.prog.cellsOf 71 = 4 := by kernel_rfl
theorem cells_i2 : Try.prog.cellsOf 83 = 2 := by kernel_rfl
theorem cells_i2s : Try.prog.cellsOf 72 = 1 := by kernel_rfl
theorem cells_script15 : Try.prog.cellsOf 74 = 5 := by kernel_rfl
theorem ty_timer {q : Nat} {avs : List AV} (h : TyAV Try.prog (q + 2) 71 avs) : ∃ (on : Bool) (l wt tr : Int), avs = [.val (.bool on), .val (.int .i64 l), .val (.int .i64 wt), .val (.int .i64 tr)] ∧ inI l ∧ inI wt ∧ inI tr := by
  unfold TyAV at h
  rw [Try.underlying71] at h
  obtain ⟨hl, hx⟩ := h
  rw [cells_timer] at hl
  match avs, hl with
  | [c0, c1, c2, c3], _ =>
    simp only [List.forall_mem_cons, cells_int, cells_bool, List.drop, List.take] at hx
    obtain ⟨h0, h1, h2, h3, -⟩ := hx
    obtain ⟨on, e0⟩ := ty_bool h0
    obtain ⟨l, e1, b1⟩ := ty_int h1
    obtain ⟨wt, e2, b2⟩ := ty_int h2
    obtain ⟨tr, e3, b3⟩ := ty_int h3
    simp only [List.cons.injEq, and_true] at e0 e1 e2 e3
    subst e0 e1 e2 e3
    exact ⟨_, _, _, _, rfl, b1, b2, b3⟩
theorem ty_i2 {q : Nat} {avs : List AV} (h : TyAV Try.prog (q + 2) 83 avs) : ∃ p : Int × Int, avs = [.val (.int .i64 p.1), .val (.int .i64 p.2)] ∧ inI p.1 ∧ inI p.2 := by
  unfold TyAV at h
  rw [Try.underlying83] at h
  obtain ⟨hl, hx⟩ := h
  rw [cells_i2] at hl
  match avs, hl with
  | [c0, c1], _ =>
    obtain ⟨b, hb, bb⟩ := ty_int (hx 0 (by decide))
    obtain ⟨c, hc, bc⟩ := ty_int (hx 1 (by decide))
    rw [cells_int] at hb hc
    simp at hb hc
    exact ⟨(b, c), by rw [hb, hc], bb, bc⟩
theorem ty_script15 {avs : List AV} (h : TyAV Try.prog 8 74 avs) : ∃ (on : Bool) (l wt tr : Int) (acts : List (Int × Int)), avs = [.val (.bool on), .val (.int .i64 l), .val (.int .i64 wt), .val (.int .i64 tr), .list 0 2 (acts.map fun p => [.val (.int .i64 p.1), .val (.int .i64 p.2)])] := by
  unfold TyAV at h
  rw [Try.underlying74] at h
  obtain ⟨hl, hx⟩ := h
  rw [cells_script15] at hl
  match avs, hl with
  | [c0, c1, c2, c3, c4], _ =>
    simp only [List.forall_mem_cons, cells_timer, cells_i2s, List.drop, List.take] at hx
    obtain ⟨h0, h1, -⟩ := hx
    obtain ⟨on, l, wt, tr, e0, b0, b1, b2⟩ := ty_timer h0
    unfold TyAV at h1
    rw [Try.underlying72] at h1
    obtain ⟨rows, e1, _, hr⟩ := h1
    obtain ⟨xs, rfl, _⟩ := rows_shape (fun row (h : _ ∧ _) => ty_i2 h.2) rows hr
    rw [cells_i2] at e1
    simp only [List.cons.injEq, and_true] at e0 e1
    obtain ⟨e0, e2, e3, e4⟩ := e0
    subst e0 e1 e2 e3 e4
    exact ⟨_, _, _, _, xs, rfl⟩
end Go.Proofs.Ytkcjdigbfcnhbaa

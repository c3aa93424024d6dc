/- The arguments of the statements on spans: what is known of their cells. No condition. -/
import Derived.Test.YtkcjdigbfcnhbaaTyped
import Derived.Test.YtkcjdigbfcnhbaaProg
namespace Go.Proofs.Ytkcjdigbfcnhbaa
open Go.ChangeShapes Go.WideShapes Go.ChangeAt Go.RowKit
set_option linter.unusedVariables false

theorem cellsOf_int : Try.prog.cellsOf 3 = 1 := by kernel_rfl
theorem cellsOf_float : Try.prog.cellsOf 24 = 1 := by kernel_rfl
theorem cellsOf_f2 : Try.prog.cellsOf 25 = 2 := by kernel_rfl
theorem cellsOf_ask12 : Try.prog.cellsOf 27 = 9 := by kernel_rfl

/-- what a typed int is -/
theorem typed_int {w : World} {n : Nat} {cs : List Value} (h : Typed Try.prog w n 3 cs) : ∃ i : Int, cs = [.int .i64 i] ∧ -9223372036854775808 ≤ i ∧ i ≤ 9223372036854775807 := by
  cases n with
  | zero => exact h.elim
  | succ n =>
    simp only [Typed, Try.underlying3] at h
    exact h
theorem typed_float {w : World} {n : Nat} {cs : List Value} (h : Typed Try.prog w n 24 cs) : ∃ b : Nat, cs = [.float .f64 b] := by
  cases n with
  | zero => exact h.elim
  | succ n =>
    simp only [Typed, Try.underlying24] at h
    exact h
theorem typed_f2 {w : World} {n : Nat} {cs : List Value} (h : Typed Try.prog w n 25 cs) : ∃ b c : Nat, cs = [.float .f64 b, .float .f64 c] := by
  cases n with
  | zero => exact h.elim
  | succ n =>
    simp only [Typed, Try.underlying25] at h
    obtain ⟨hl, hx⟩ := h
    rw [cellsOf_f2] at hl
    match cs, hl with
    | [c0, c1], _ =>
      obtain ⟨b, hb⟩ := typed_float (hx 0 (by decide))
      obtain ⟨c, hc⟩ := typed_float (hx 1 (by decide))
      rw [cellsOf_float] at hb hc
      simp at hb hc
      exact ⟨b, c, by rw [hb, hc]⟩

theorem typed_ask12 {w : World} {n : Nat} {cs : List Value} (h : Typed Try.prog w n 27 cs) : ∃ (S T N M X : Int) (p0 p1 q0 q1 : Nat),
    cs = [.int .i64 S, .int .i64 T, .int .i64 N, .int .i64 M, .int .i64 X, .float .f64 p0, .float .f64 p1, .float .f64 q0, .float .f64 q1] ∧
    (-9223372036854775808 ≤ S ∧ S ≤ 9223372036854775807) ∧ (-9223372036854775808 ≤ T ∧ T ≤ 9223372036854775807) ∧ (-9223372036854775808 ≤ N ∧ N ≤ 9223372036854775807) ∧
    (-9223372036854775808 ≤ M ∧ M ≤ 9223372036854775807) ∧ (-9223372036854775808 ≤ X ∧ X ≤ 9223372036854775807) := by
  cases n with
  | zero => exact h.elim
  | succ n =>
    simp only [Typed, Try.underlying27] at h
    obtain ⟨hl, hx⟩ := h
    rw [cellsOf_ask12] at hl
    match cs, hl with
    | [c0, c1, c2, c3, c4, c5, c6, c7, c8], _ =>
      simp only [List.forall_mem_cons, cellsOf_int, cellsOf_f2, List.drop, List.take] at hx
      obtain ⟨h0, h1, h2, h3, h4, h5, h6, -⟩ := hx
      obtain ⟨S, e0, b0⟩ := typed_int h0
      obtain ⟨T, e1, b1⟩ := typed_int h1
      obtain ⟨N, e2, b2⟩ := typed_int h2
      obtain ⟨M, e3, b3⟩ := typed_int h3
      obtain ⟨X, e4, b4⟩ := typed_int h4
      obtain ⟨p0, p1, e5⟩ := typed_f2 h5
      obtain ⟨q0, q1, e6⟩ := typed_f2 h6
      simp only [List.cons.injEq, and_true] at e0 e1 e2 e3 e4 e5 e6
      obtain ⟨e5, e5'⟩ := e5
      obtain ⟨e6, e6'⟩ := e6
      subst e0 e1 e2 e3 e4 e5 e5' e6 e6'
      exact ⟨_, _, _, _, _, _, _, _, _, rfl, b0, b1, b2, b3, b4⟩

/-- element i of a slice of questions on spans -/
structure Ask12 (w : World) (b o : Nat) (S T N M X : Int) (p0 p1 q0 q1 : Nat) : Prop where
  c0 : w.cell? ⟨b, o, none⟩ = some (.int .i64 S)
  c1 : w.cell? ⟨b, o + 1, none⟩ = some (.int .i64 T)
  c2 : w.cell? ⟨b, o + 2, none⟩ = some (.int .i64 N)
  c3 : w.cell? ⟨b, o + 3, none⟩ = some (.int .i64 M)
  c4 : w.cell? ⟨b, o + 4, none⟩ = some (.int .i64 X)
  c5 : w.cell? ⟨b, o + 5, none⟩ = some (.float .f64 p0)
  c6 : w.cell? ⟨b, o + 6, none⟩ = some (.float .f64 p1)
  c7 : w.cell? ⟨b, o + 7, none⟩ = some (.float .f64 q0)
  c8 : w.cell? ⟨b, o + 8, none⟩ = some (.float .f64 q1)
  bS : -9223372036854775808 ≤ S ∧ S ≤ 9223372036854775807
  bT : -9223372036854775808 ≤ T ∧ T ≤ 9223372036854775807
  bN : -9223372036854775808 ≤ N ∧ N ≤ 9223372036854775807
  bM : -9223372036854775808 ≤ M ∧ M ≤ 9223372036854775807
  bX : -9223372036854775808 ≤ X ∧ X ≤ 9223372036854775807

theorem cell_of_list {w : World} {b o n : Nat} {cs : List Value} (h : w.cells? 0 ⟨b, o, none⟩ n = some cs) (i : Nat) (hi : i < n) : w.cell? ⟨b, o + i, none⟩ = cs[i]? := by
  have := (World.cells?_some h).2.2 i hi
  rw [← this]
  unfold Addr.add
  split
  · rename_i h0; subst h0; simp
  · rfl

theorem addr_add_plain (b o n : Nat) : (⟨b, o, none⟩ : Addr).add n = ⟨b, o + n, none⟩ := by
  unfold Addr.add
  split
  · rename_i h0; subst h0; simp
  · rfl

/-- A slice of questions on spans: it has none; or its elements lie at a place of its own. -/
def Asks12 (w : World) (a : Option Addr) (len : Nat) : Prop := len = 0 ∨ ∃ b o, a = some ⟨b, o, none⟩ ∧ len ≤ maxLen ∧ ∀ i, i < len → ∃ S T N M X p0 p1 q0 q1, Ask12 w b (o + i * 9) S T N M X p0 p1 q0 q1
theorem Asks12.le {w : World} {a : Option Addr} {len : Nat} (h : Asks12 w a len) : len ≤ 9223372036854775807 := by
  rcases h with h | ⟨_, _, _, h, _⟩
  · omega
  · exact h
theorem asks12 {w : World} {n : Nat} {a : Option Addr} {len cap : Nat} (h : Typed Try.prog w n 22 [.slice a len cap]) : Asks12 w a len := by
  cases n with
  | zero => exact h.elim
  | succ n =>
    simp only [Typed, Try.underlying22] at h
    rcases h with h | ⟨a', len', cap', h, hl, hm, hx⟩
    · simp at h; exact .inl h.2.1
    · simp only [List.cons.injEq, Value.slice.injEq, and_true] at h
      obtain ⟨rfl, rfl, rfl⟩ := h
      rcases Nat.eq_zero_or_pos len with h0 | h0
      · exact .inl h0
      · obtain ⟨b, o, sp⟩ := a'
        have hsp : sp = none := by
          obtain ⟨es, h1, h2⟩ := hx 0 h0
          rw [cellsOf_ask12] at h1
          have h3 := (World.cells?_some h1).2.2 0 (by decide)
          obtain ⟨S, T, N, M, X, p0, p1, q0, q1, rfl, _⟩ := typed_ask12 h2
          have h4 := World.cell?_spot (h3.trans (by rfl : _ = some (.int .i64 S)))
          simpa [Addr.add] using h4
        subst hsp
        refine .inr ⟨b, o, rfl, by omega, fun i hi => ?_⟩
        obtain ⟨es, h1, h2⟩ := hx i hi
        rw [cellsOf_ask12, addr_add_plain] at h1
        obtain ⟨S, T, N, M, X, p0, p1, q0, q1, rfl, b0, b1, b2, b3, b4⟩ := typed_ask12 h2
        have hc := cell_of_list h1
        exact ⟨S, T, N, M, X, p0, p1, q0, q1, hc 0 (by decide), hc 1 (by decide), hc 2 (by decide), hc 3 (by decide), hc 4 (by decide), hc 5 (by decide), hc 6 (by decide), hc 7 (by decide), hc 8 (by decide), b0, b1, b2, b3, b4⟩
end Go.Proofs.Ytkcjdigbfcnhbaa

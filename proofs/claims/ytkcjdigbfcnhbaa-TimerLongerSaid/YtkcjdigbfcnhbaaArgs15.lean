/- The argument of the statements on timers: what is known of its cells. No condition. -/
import Derived.Test.YtkcjdigbfcnhbaaArgs12
namespace Go.Proofs.Ytkcjdigbfcnhbaa
open Go.ChangeShapes Go.WideShapes Go.ChangeAt Go.RowKit
set_option linter.unusedVariables false

theorem cellsOf_bool : Try.prog.cellsOf 4 = 1 := by kernel_rfl
theorem cellsOf_timer : Try.prog.cellsOf 71 = 4 := by kernel_rfl
theorem cellsOf_i2 : Try.prog.cellsOf 83 = 2 := by kernel_rfl
theorem cellsOf_i2s : Try.prog.cellsOf 72 = 1 := by kernel_rfl
theorem cellsOf_script15 : Try.prog.cellsOf 74 = 5 := by kernel_rfl

theorem typed_bool {w : World} {n : Nat} {cs : List Value} (h : Typed Try.prog w n 4 cs) : ∃ b, cs = [.bool b] := by
  cases n with
  | zero => exact h.elim
  | succ n => simp only [Typed, Try.underlying4] at h; exact h

theorem typed_timer {w : World} {n : Nat} {cs : List Value} (h : Typed Try.prog w n 71 cs) : ∃ (on : Bool) (l wt tr : Int),
    cs = [.bool on, .int .i64 l, .int .i64 wt, .int .i64 tr] ∧ (-9223372036854775808 ≤ l ∧ l ≤ 9223372036854775807) ∧ (-9223372036854775808 ≤ wt ∧ wt ≤ 9223372036854775807) ∧ (-9223372036854775808 ≤ tr ∧ tr ≤ 9223372036854775807) := by
  cases n with
  | zero => exact h.elim
  | succ n =>
    simp only [Typed, Try.underlying71] at h
    obtain ⟨hl, hx⟩ := h
    rw [cellsOf_timer] at hl
    match cs, hl with
    | [c0, c1, c2, c3], _ =>
      simp only [List.forall_mem_cons, cellsOf_int, cellsOf_bool, List.drop, List.take] at hx
      obtain ⟨h0, h1, h2, h3, -⟩ := hx
      obtain ⟨on, e0⟩ := typed_bool h0
      obtain ⟨l, e1, b1⟩ := typed_int h1
      obtain ⟨wt, e2, b2⟩ := typed_int h2
      obtain ⟨tr, e3, b3⟩ := typed_int h3
      simp only [List.cons.injEq, and_true] at e0 e1 e2 e3
      subst e0 e1 e2 e3
      exact ⟨_, _, _, _, rfl, b1, b2, b3⟩

theorem typed_i2 {w : World} {n : Nat} {cs : List Value} (h : Typed Try.prog w n 83 cs) : ∃ b c : Int, cs = [.int .i64 b, .int .i64 c] ∧ (-9223372036854775808 ≤ b ∧ b ≤ 9223372036854775807) ∧ (-9223372036854775808 ≤ c ∧ c ≤ 9223372036854775807) := by
  cases n with
  | zero => exact h.elim
  | succ n =>
    simp only [Typed, Try.underlying83] at h
    obtain ⟨hl, hx⟩ := h
    rw [cellsOf_i2] at hl
    match cs, hl with
    | [c0, c1], _ =>
      obtain ⟨b, hb, bb⟩ := typed_int (hx 0 (by decide))
      obtain ⟨c, hc, bc⟩ := typed_int (hx 1 (by decide))
      rw [cellsOf_int] at hb hc
      simp at hb hc
      exact ⟨b, c, by rw [hb, hc], bb, bc⟩

/-- acts of a script on a timer -/
def Acts15 (w : World) (a : Option Addr) (len : Nat) : Prop := len ≤ 9223372036854775807 ∧ (len = 0 ∨ ∃ b o, a = some ⟨b, o, none⟩ ∧ ∀ i, i < len → ∃ x y : Int,
  w.cell? ⟨b, o + i * 2, none⟩ = some (.int .i64 x) ∧ w.cell? ⟨b, o + i * 2 + 1, none⟩ = some (.int .i64 y) ∧ (-9223372036854775808 ≤ x ∧ x ≤ 9223372036854775807) ∧ (-9223372036854775808 ≤ y ∧ y ≤ 9223372036854775807))

theorem acts15 {w : World} {n : Nat} {cs : List Value} (h : Typed Try.prog w n 72 cs) : ∃ a len cap, cs = [.slice a len cap] ∧ Acts15 w a len := by
  cases n with
  | zero => exact h.elim
  | succ n =>
    simp only [Typed, Try.underlying72] at h
    rcases h with h | ⟨a', len', cap', h, hl, hm, hx⟩
    · exact ⟨none, 0, 0, h, by omega, .inl rfl⟩
    · refine ⟨some a', len', cap', h, by unfold maxLen at hm; omega, ?_⟩
      rcases Nat.eq_zero_or_pos len' with h0 | h0
      · exact .inl h0
      · obtain ⟨b, o, sp⟩ := a'
        have hsp : sp = none := by
          obtain ⟨es, h1, h2⟩ := hx 0 h0
          rw [cellsOf_i2] at h1
          have h3 := (World.cells?_some h1).2.2 0 (by decide)
          obtain ⟨x, y, rfl, _⟩ := typed_i2 h2
          have h4 := World.cell?_spot (h3.trans (by rfl : _ = some (.int .i64 x)))
          simpa [Addr.add] using h4
        subst hsp
        refine .inr ⟨b, o, rfl, fun i hi => ?_⟩
        obtain ⟨es, h1, h2⟩ := hx i hi
        rw [cellsOf_i2, addr_add_plain] at h1
        obtain ⟨x, y, rfl, bx, by0⟩ := typed_i2 h2
        have hc := cell_of_list h1
        exact ⟨x, y, hc 0 (by decide), hc 1 (by decide), bx, by0⟩

/-- a script on a timer -/
def Script15 (w : World) (cs : Array Value) : Prop := ∃ (on : Bool) (l wt tr : Int) (a : Option Addr) (len cap : Nat), cs = #[.bool on, .int .i64 l, .int .i64 wt, .int .i64 tr, .slice a len cap] ∧
  (-9223372036854775808 ≤ l ∧ l ≤ 9223372036854775807) ∧ (-9223372036854775808 ≤ wt ∧ wt ≤ 9223372036854775807) ∧ (-9223372036854775808 ≤ tr ∧ tr ≤ 9223372036854775807) ∧ Acts15 w a len

theorem script15 {w : World} {n : Nat} {cs : Array Value} (h : Typed Try.prog w n 74 cs.toList) : Script15 w cs := by
  cases n with
  | zero => exact h.elim
  | succ n =>
    obtain ⟨cs⟩ := cs
    simp only [Typed, Try.underlying74] at h
    obtain ⟨hl, hx⟩ := h
    rw [cellsOf_script15] at hl
    match cs, hl with
    | [c0, c1, c2, c3, c4], _ =>
      simp only [List.forall_mem_cons, cellsOf_timer, cellsOf_i2s, List.drop, List.take] at hx
      obtain ⟨h0, h1, -⟩ := hx
      obtain ⟨on, l, wt, tr, e0, b0, b1, b2⟩ := typed_timer h0
      obtain ⟨a, len, cap, e1, hA⟩ := acts15 h1
      simp only [List.cons.injEq, and_true] at e0 e1
      obtain ⟨e0, e2, e3, e4⟩ := e0
      subst e0 e1 e2 e3 e4
      exact ⟨on, l, wt, tr, a, len, cap, rfl, b0, b1, b2, hA⟩
end Go.Proofs.Ytkcjdigbfcnhbaa

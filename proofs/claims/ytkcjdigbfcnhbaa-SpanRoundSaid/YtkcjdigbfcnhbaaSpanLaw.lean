/- Common lemmas of the statements on spans: their small functions, the cells of a question. No condition. -/
import Derived.Test.YtkcjdigbfcnhbaaArgs12
import Derived.Test.YtkcjdigbfcnhbaaNum
import Derived.Test.YtkcjdigbfcnhbaaSpan
import Derived.Deep.QuietTactic
import Derived.BigQuiet
namespace Go.Proofs.Ytkcjdigbfcnhbaa
open Go.ChangeShapes Go.WideShapes Go.ChangeAt Go.RowKit
set_option linter.unusedVariables false

theorem Calls.q {P : Program} {f : FuncId} {args : Array Value} {F : Nat → World} {m : Nat} {v : Value}
    (h : Calls P f args (F m) fun e w' => e = .returned v ∧ F m = w') : Calls P f args (F m) fun e w'' => e = .returned v ∧ ∃ m, w'' = F m :=
  h.mono fun _ _ ⟨he, hm⟩ => ⟨he, m, hm.symm⟩

/-- a bool that is known -/
theorem Calls.b {P : Program} {f : FuncId} {args : Array Value} {w : World} {b c : Bool} (hb : b = c) (h : Calls P f args w fun e w' => e = .returned (.bool b) ∧ w = w') :
    Calls P f args w fun e w' => e = .returned (.bool c) ∧ w = w' := hb ▸ h

/-- a number under another name -/
theorem Calls.i {P : Program} {f : FuncId} {args : Array Value} {w : World} {k : IntKind} {b c : Int} (hb : b = c) (h : Calls P f args w fun e w' => e = .returned (.int k b) ∧ w = w') :
    Calls P f args w fun e w' => e = .returned (.int k c) ∧ w = w' := hb ▸ h

theorem whole12_c (n : Int) (w : World) : Calls Try.prog 14 #[.int .i64 n] w fun e w' => e = .returned (.int .i64 (n % 4294967296)) ∧ w = w' := by
  go_enter Try.func14, Try.ntmps14
  go_wp2
  go_ret
  exact ⟨rfl, rfl⟩

theorem wakes12_c (w : World) : Calls Try.prog 19 #[] w fun e w' => e = .returned (.bool true) ∧ w = w' := by
  have h1 : wdiff 0 4294967295 = 1 := by unfold wdiff; decide
  have h2 : wadd 4294967295 1 = 0 := by unfold wadd; decide
  go_enter Try.func19, Try.ntmps19
  go_wp2_with (first | (go_at_call 17; (with_reducible refine (spanDiff_c _ _ _).mono ?_); rintro e w' ⟨rfl, rfl⟩) | (go_at_call 15; (with_reducible refine (spanAdd_c _ _ _).mono ?_); rintro e w' ⟨rfl, rfl⟩))
  go_ret
  exact ⟨rfl, rfl⟩

theorem Below.drewN {B : Nat} {w : World} (n : Nat) : Below B w (w.drewN n) := ⟨rfl, rfl, rfl, Nat.le_refl _, fun _ _ => rfl⟩

theorem num12_c (n : Int) (w : World) : Calls Try.prog 31 #[.int .i64 n] w fun e w' => e = .returned (.int .i64 n) ∧ w = w' := by
  go_enter Try.func31, Try.ntmps31
  go_wp2
  go_ret
  exact ⟨rfl, rfl⟩

theorem Ask12.at {w wr : World} {b o : Nat} {S T N M X : Int} {p0 p1 q0 q1 : Nat} (h : Ask12 w b o S T N M X p0 p1 q0 q1) (hB : Below w.heap.size w wr) : Ask12 wr b o S T N M X p0 p1 q0 q1 :=
  ⟨(hB.cell (World.block_lt_of_cell? w _ h.c0)).trans h.c0, (hB.cell (World.block_lt_of_cell? w _ h.c1)).trans h.c1, (hB.cell (World.block_lt_of_cell? w _ h.c2)).trans h.c2,
   (hB.cell (World.block_lt_of_cell? w _ h.c3)).trans h.c3, (hB.cell (World.block_lt_of_cell? w _ h.c4)).trans h.c4, (hB.cell (World.block_lt_of_cell? w _ h.c5)).trans h.c5,
   (hB.cell (World.block_lt_of_cell? w _ h.c6)).trans h.c6, (hB.cell (World.block_lt_of_cell? w _ h.c7)).trans h.c7, (hB.cell (World.block_lt_of_cell? w _ h.c8)).trans h.c8, h.bS, h.bT, h.bN, h.bM, h.bX⟩

theorem fI_self {n : Int} (h : 0 ≤ n ∧ n < 9007199254740992) : FloatKind.f64.format.order (fI n) (fI n) = some .eq := by
  rw [fI_of h.1]
  show Ieee.double.order _ _ = _
  rw [order_FN_FN _ _ (by omega) (by omega), cmp_eq]
theorem zero_self : FloatKind.f64.format.order 0 0 = some .eq := by decide
end Go.Proofs.Ytkcjdigbfcnhbaa

/- The walk of kiosklaw12.SpanNumbers. -/
import Derived.Test.YtkcjdigbfcnhbaaArgs12
import Derived.Test.YtkcjdigbfcnhbaaNum
import Derived.Deep.QuietTactic
import Derived.BigQuiet
namespace Go.Proofs.Ytkcjdigbfcnhbaa
open Go.ChangeShapes Go.WideShapes Go.ChangeAt Go.RowKit
set_option linter.unusedVariables false

theorem Calls.q {P : Program} {f : FuncId} {args : Array Value} {F : Nat → World} {m : Nat} {v : Value}
    (h : Calls P f args (F m) fun e w' => e = .returned v ∧ F m = w') : Calls P f args (F m) fun e w'' => e = .returned v ∧ ∃ m, w'' = F m :=
  h.mono fun _ _ ⟨he, hm⟩ => ⟨he, m, hm.symm⟩

theorem whole12_c (n : Int) (w : World) : Calls Try.prog 14 #[.int .i64 n] w fun e w' => e = .returned (.int .i64 (n % 4294967296)) ∧ w = w' := by
  go_enter Try.func14, Try.ntmps14
  go_wp2
  go_ret
  exact ⟨rfl, rfl⟩

theorem wakes12_c (w : World) : Calls Try.prog 19 #[] w fun e w' => e = .returned (.bool true) ∧ w = w' := by
  have h1 : wdiff 0 4294967295 = 1 := by decide
  have h2 : wadd 4294967295 1 = 0 := by decide
  go_enter Try.func19, Try.ntmps19
  go_wp2_with (first | (go_at_call 17; (with_reducible refine (spanDiff_c _ _ _).mono ?_); rintro e w' ⟨rfl, rfl⟩) | (go_at_call 15; (with_reducible refine (spanAdd_c _ _ _).mono ?_); rintro e w' ⟨rfl, rfl⟩))
  go_ret
  exact ⟨rfl, rfl⟩

theorem Below.drewN {B : Nat} {w : World} (n : Nat) : Below B w (w.drewN n) := ⟨rfl, rfl, rfl, Nat.le_refl _, fun _ _ => rfl⟩

theorem Ask12.cells3 {w wr : World} {b o : Nat} {S T N M X : Int} {p0 p1 q0 q1 : Nat} (h : Ask12 w b o S T N M X p0 p1 q0 q1) (hB : Below w.heap.size w wr) :
    wr.cell? ⟨b, o, none⟩ = some (.int .i64 S) ∧ wr.cell? ⟨b, o + 1, none⟩ = some (.int .i64 T) ∧ wr.cell? ⟨b, o + 2, none⟩ = some (.int .i64 N) :=
  ⟨(hB.cell (World.block_lt_of_cell? w _ h.c0)).trans h.c0, (hB.cell (World.block_lt_of_cell? w _ h.c1)).trans h.c1, (hB.cell (World.block_lt_of_cell? w _ h.c2)).trans h.c2⟩

set_option maxRecDepth 100000 in
theorem spanNumbers_walk (a : Option Addr) (len cap : Nat) (w : World) (h : Asks12 w a len) :
    Calls Try.prog 3 #[.slice a len cap] w fun e w' => e = .returned (.bool true) ∧ Below w.heap.size w w' := by
  have hm := h.le
  go_enter Try.func3, Try.ntmps3
  go_wp2_with fail
  go_loopw [3] (fun i wr => ∃ k : Nat, k ≤ 20 ∧ k ≤ len ∧ i = .int .i64 k ∧ Below w.heap.size w wr) (fun i _ => len - (intOf i).toNat)
  case atStart => exact ⟨0, by omega, by omega, rfl, Below.refl _ _⟩
  case round =>
    obtain ⟨k, hk, hkl, rfl, hB⟩ := hrel
    by_cases hlt : k < len
    · by_cases h20 : k < 20
      · rcases h with h | ⟨b, o, rfl, hm', hx⟩
        · omega
        obtain ⟨S, T, N, M, X, p0, p1, q0, q1, hA⟩ := hx k hlt
        obtain ⟨e0, e1, e2⟩ := hA.cells3 hB
        clear hA hx
        have f1 : wadd (T % 4294967296) (wdiff (S % 4294967296) (T % 4294967296)) = S % 4294967296 := by unfold wadd wdiff; omega
        have f2 := wdiff_bd (S % 4294967296) (T % 4294967296)
        have f3 : wdiff (S % 4294967296) (S % 4294967296) = 0 := by unfold wdiff; omega
        have f4 : wdiff (S % 4294967296) (T % 4294967296) = -2147483648 ∨ wdiff (T % 4294967296) (S % 4294967296) = - wdiff (S % 4294967296) (T % 4294967296) := by unfold wdiff; omega
        by_cases f5 : wdiff (S % 4294967296) (T % 4294967296) = -2147483648
        · clear f4 f2
          rw [f5] at f1
          go_wp2_with fail
          go_quiet ((go_at_call 14; exact Calls.q (whole12_c _ _)))
          go_wp2_with fail
          go_quiet ((first | (go_at_call 15; exact Calls.q (spanAdd_c _ _ _)) | (go_at_call 16; exact Calls.q (refAdd_c _ _ _)) | (go_at_call 17; exact Calls.q (spanDiff_c _ _ _)) | (go_at_call 18; exact Calls.q (refDiff_c _ _ _))))
          go_wp2_with (first | (go_at_call 17; (with_reducible refine (spanDiff_c _ _ _).mono ?_); rintro e w' ⟨rfl, rfl⟩) | (go_at_call 15; (with_reducible refine (spanAdd_c _ _ _).mono ?_); rintro e w' ⟨rfl, rfl⟩))
          go_roundw
          case rel => exact ⟨k + 1, by omega, by omega, by go_num, hB.trans (Below.drewN _)⟩
          case measure => simp [intOf]; omega
        · have f6 : wdiff (T % 4294967296) (S % 4294967296) = - wdiff (S % 4294967296) (T % 4294967296) := f4.resolve_left f5
          have f7 : (wdiff (S % 4294967296) (T % 4294967296) != -2147483648) = true := by rw [bne_iff_ne]; exact f5
          clear f4 f5
          go_wp2_with fail
          go_quiet ((go_at_call 14; exact Calls.q (whole12_c _ _)))
          go_wp2_with fail
          go_quiet ((first | (go_at_call 15; exact Calls.q (spanAdd_c _ _ _)) | (go_at_call 16; exact Calls.q (refAdd_c _ _ _)) | (go_at_call 17; exact Calls.q (spanDiff_c _ _ _)) | (go_at_call 18; exact Calls.q (refDiff_c _ _ _))))
          go_wp2_with (first | (go_at_call 17; (with_reducible refine (spanDiff_c _ _ _).mono ?_); rintro e w' ⟨rfl, rfl⟩) | (go_at_call 15; (with_reducible refine (spanAdd_c _ _ _).mono ?_); rintro e w' ⟨rfl, rfl⟩))
          go_roundw
          case rel => exact ⟨k + 1, by omega, by omega, by go_num, hB.trans (Below.drewN _)⟩
          case measure => simp [intOf]; omega
      · go_wp2_with (go_at_call 19; (with_reducible refine (wakes12_c _).mono ?_); rintro e w' ⟨rfl, rfl⟩)
        go_ret
        exact ⟨rfl, hB⟩
    · go_wp2_with (go_at_call 19; (with_reducible refine (wakes12_c _).mono ?_); rintro e w' ⟨rfl, rfl⟩)
      go_ret
      exact ⟨rfl, hB⟩
end Go.Proofs.Ytkcjdigbfcnhbaa

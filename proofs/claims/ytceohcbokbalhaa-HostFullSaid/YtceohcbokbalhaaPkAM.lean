/- Contracts and plain laws, one behind the other: TcpEv2, TcpTri, TcpEv3. Conditions are said at each. -/
import Derived.Test.YtceohcbokbalhaaPkAL
import Derived.Test.YtceohcbokbalhaaPkAG
import Derived.Test.YtceohcbokbalhaaPkAI
/- A connection from its first segment to its end, step by step: plain law. Conditions are said at each. -/
namespace Go.Proofs.Ytceohcbokbalhaa
open Go.RowKit
set_option linter.unusedVariables false
set_option linter.unusedSimpArgs false
set_option maxRecDepth 100000
set_option maxHeartbeats 1000000
theorem fl_16_1 : flN 16 1 = true := by decide +kernel
theorem fl_16_2 : flN 16 2 = true := by decide +kernel
theorem fl_16_4 : flN 16 4 = true := by decide +kernel
theorem fl_16_16 : flN 16 16 = false := by decide +kernel
theorem wdiff_d (a i j : Int) (h : (decide (-2147483648 ≤ i - j) && decide (i - j < 2147483648)) = true) : wdiff (wadd a i) (wadd a j) = i - j := by
  rw [Bool.and_eq_true, decide_eq_true_eq, decide_eq_true_eq] at h
  exact wdiff_two a h
theorem woff_d (a i j : Int) (h : (decide (0 ≤ i - j) && decide (i - j < 4294967296)) = true) : woff (wadd a i) (wadd a j) = i - j := by
  rw [Bool.and_eq_true, decide_eq_true_eq, decide_eq_true_eq] at h
  exact woff_wadd a h
abbrev cE (A R : Int) (st u n i : Int) (cl : Bool) (t : Tm) : Cn := ⟨1, 2, 3, 4, st, wadd A u, wadd A n, 1000, [], wadd R i, [], cl, t⟩
def cF (A R : Int) (j : Nat) : Cn := if j < 20 then cE A R 8 2 2 2 true ⟨true, 20 - j, 20, 0⟩ else cE A R 0 2 2 2 true tm0
end Go.Proofs.Ytceohcbokbalhaa

/- A first answer that nobody hears: plain law. No condition. -/
namespace Go.Proofs.Ytceohcbokbalhaa
open Go.RowKit
set_option linter.unusedVariables false
set_option linter.unusedSimpArgs false
set_option maxRecDepth 100000
def wT (n : Nat) : Int := if n = 0 then 3 else if n = 1 then 6 else if n = 2 then 12 else if n = 3 then 24 else 48
def cT (iss : Int) (n : Nat) (g : Int) : Cn := ⟨1, 2, 3, 4, 1, iss, wadd iss 1, 0, [], 10, [], false, ⟨true, wT n - g, wT n, n⟩⟩
end Go.Proofs.Ytceohcbokbalhaa

/- A connection whose peer's window is shut; one that sends more than a segment holds: plain law, step by step. Conditions are said at each. -/
namespace Go.Proofs.Ytceohcbokbalhaa
open Go.RowKit
set_option linter.unusedVariables false
set_option linter.unusedSimpArgs false
set_option maxRecDepth 100000
set_option maxHeartbeats 1000000
theorem reaS_10 (s : Int) : reaS 10 [] s [] = (10, [], []) := reaS_none _ _ (by decide)
theorem woff_10 : woff 10 10 = 0 := woff_self 10
end Go.Proofs.Ytceohcbokbalhaa

/- Plain facts: what two near spans have in common. -/
import Derived.Test.YtkcjdigbfcnhbaaMath
import Derived.Test.YtkcjdigbfcnhbaaSpan
namespace Go.Proofs.Ytkcjdigbfcnhbaa

/-- two spans of few numbers, near to each other: the same either way; a number is in it just if both have it -/
theorem meet_sym {s t n m : Int} (hs : 0 ≤ s ∧ s ≤ 4294967295) (ht : 0 ≤ t ∧ t ≤ 4294967295) (hn : 0 ≤ n ∧ n ≤ 65536) (hm : 0 ≤ m ∧ m ≤ 65536) (hd : -65536 ≤ wdiff s t ∧ wdiff s t ≤ 65536) :
    meetS s n t m = meetS t m s n ∧ meetN s n t m = meetN t m s n := by
  have e : wdiff t s = - wdiff s t := by unfold wdiff at *; omega
  have e2 : wadd t (wdiff s t) = s := by unfold wadd wdiff at *; omega
  have e3 : wadd s (- wdiff s t) = t := by unfold wadd wdiff at *; omega
  have e4 : wadd s 0 = s := by unfold wadd; omega
  have e5 : wadd t 0 = t := by unfold wadd; omega
  unfold meetS meetN
  rw [e]
  generalize wdiff s t = d at *
  by_cases h : max d 0 < min (d + n) m
  · rw [if_pos h, if_pos h, if_pos (by omega), if_pos (by omega)]
    refine ⟨?_, by omega⟩
    rcases Int.le_total 0 d with h0 | h0
    · rw [show max d 0 = d by omega, show max (-d) 0 = 0 by omega, e2, e4]
    · rw [show max d 0 = 0 by omega, show max (-d) 0 = -d by omega, e5, e3]
  · rw [if_neg h, if_neg h, if_neg (by omega), if_neg (by omega)]
    exact ⟨rfl, rfl⟩

theorem meet_has {s t n m v : Int} (hs : 0 ≤ s ∧ s ≤ 4294967295) (ht : 0 ≤ t ∧ t ≤ 4294967295) (hn : 0 ≤ n ∧ n ≤ 65536) (hm : 0 ≤ m ∧ m ≤ 65536) (hv : 0 ≤ v ∧ v ≤ 4294967295) (hd : -65536 ≤ wdiff s t ∧ wdiff s t ≤ 65536)  :
    decide (woff v (meetS s n t m) < meetN s n t m) = (decide (woff v s < n) && decide (woff v t < m)) := by
  rw [Bool.eq_iff_iff]
  simp only [Bool.and_eq_true, decide_eq_true_eq]
  unfold meetS meetN
  split
  · rename_i h
    rcases Int.le_total 0 (wdiff s t) with h0 | h0
    · rw [show max (wdiff s t) 0 = wdiff s t by omega] at *
      have e2 : wadd t (wdiff s t) = s := by unfold wadd wdiff at *; omega
      rw [e2]
      unfold wdiff woff at *
      omega
    · rw [show max (wdiff s t) 0 = 0 by omega] at *
      have e5 : wadd t 0 = t := by unfold wadd; omega
      rw [e5]
      unfold wdiff woff at *
      omega
  · rename_i h
    unfold wdiff woff at *
    omega
end Go.Proofs.Ytkcjdigbfcnhbaa

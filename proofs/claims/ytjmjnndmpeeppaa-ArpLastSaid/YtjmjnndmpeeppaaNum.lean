/- What the functions on whole numbers answer (packages span, ether, timer, kioskref12, kioskref0, kiosklaw0 and the num of the statements). No condition but bounds where they are written. -/
import Derived.Test.YtjmjnndmpeeppaaProg
import Derived.Test.YtjmjnndmpeeppaaMath
namespace Go.Proofs.Ytjmjnndmpeeppaa
open Go.RowKit

theorem spanAdd_c (s n : Int) (w : World) : Calls Try.prog 74 #[.int .i64 s, .int .i64 n] w fun e w' => e = .returned (.int .i64 (wadd s n)) ∧ w = w' := by
  go_enter Try.func74, Try.ntmps74
  go_wp2
  go_ret
  exact ⟨ret_int (by simp only [and32, wrap64, wadd]; omega), rfl⟩

theorem refAdd_c (s n : Int) (w : World) : Calls Try.prog 16 #[.int .i64 s, .int .i64 n] w fun e w' => e = .returned (.int .i64 (wadd s n)) ∧ w = w' := by
  go_enter Try.func16, Try.ntmps16
  go_wp2
  go_ret
  exact ⟨ret_int (by unfold wadd; omega), rfl⟩

theorem spanDiff_c (a b : Int) (w : World) : Calls Try.prog 70 #[.int .i64 a, .int .i64 b] w fun e w' => e = .returned (.int .i64 (wdiff a b)) ∧ w = w' := by
  go_enter Try.func70, Try.ntmps70
  go_wp2
  all_goals (go_ret; refine ⟨ret_int ?_, rfl⟩)
  all_goals (simp only [and32, wrap64, wdiff] at *; omega)


/-- from 0 to another one -/
def within (n m : Int) : Bool := decide (0 ≤ n ∧ n ≤ m)
theorem within_t {n m : Int} (h : within n m = true) : 0 ≤ n ∧ n ≤ m := by simpa [within] using h
theorem within_f {n m : Int} (h : within n m = false) : n < 0 ∨ m < n := by simp [within] at h; omega
theorem within_mk {n m : Int} (h : 0 ≤ n ∧ n ≤ m) : within n m = true := by simpa [within] using h

theorem refNum_c (n m : Int) (w : World) : Calls Try.prog 58 #[.int .i64 n, .int .i64 m] w fun e w' => e = .returned (.bool (within n m)) ∧ w = w' := by
  go_enter Try.func58, Try.ntmps58
  by_cases h1 : 0 ≤ n <;> by_cases h2 : n ≤ m
  all_goals go_wp2
  all_goals (go_ret; refine ⟨ret_bool ?_, rfl⟩)
  all_goals (simp [within]; omega)

theorem refWord_c (n : Int) (w : World) : Calls Try.prog 26 #[.int .i64 n] w fun e w' => e = .returned (.bool (within n 4294967295)) ∧ w = w' := by
  go_enter Try.func26, Try.ntmps26
  go_wp2_with (go_at_call 58; refine (refNum_c _ _ _).mono ?_; rintro e w' ⟨rfl, rfl⟩)
  go_ret
  exact ⟨rfl, rfl⟩

theorem refMacOk_c (n : Int) (w : World) : Calls Try.prog 42 #[.int .i64 n] w fun e w' => e = .returned (.bool (within n 281474976710655)) ∧ w = w' := by
  go_enter Try.func42, Try.ntmps42
  go_wp2_with (go_at_call 58; refine (refNum_c _ _ _).mono ?_; rintro e w' ⟨rfl, rfl⟩)
  go_ret
  exact ⟨rfl, rfl⟩

theorem etherWithin_c (n m : Int) (w : World) : Calls Try.prog 81 #[.int .i64 n, .int .i64 m] w fun e w' => e = .returned (.bool (within n m)) ∧ w = w' := by
  go_enter Try.func81, Try.ntmps81
  by_cases h1 : 0 ≤ n <;> by_cases h2 : n ≤ m
  all_goals go_wp2
  all_goals (go_ret; refine ⟨ret_bool ?_, rfl⟩)
  all_goals (simp [within]; omega)

theorem spanIs_c (n : Int) (w : World) : Calls Try.prog 52 #[.int .i64 n] w fun e w' => e = .returned (.bool (within n 4294967295)) ∧ w = w' := by
  go_enter Try.func52, Try.ntmps52
  by_cases h1 : 0 ≤ n <;> by_cases h2 : n < 4294967296
  all_goals go_wp2
  all_goals (go_ret; refine ⟨ret_bool ?_, rfl⟩)
  all_goals (simp [within]; omega)


theorem refMod_c (p n : Int) (hn : 0 < n) (hn2 : n ≤ 4611686018427387904) (w : World) : Calls Try.prog 80 #[.int .i64 p, .int .i64 n] w fun e w' => e = .returned (.int .i64 (p % n)) ∧ w = w' := by
  have h1 := Int.tmod_lt_of_pos p hn
  have h2 : -n < p.tmod n := by
    have := Int.lt_tmod_of_pos p hn
    omega
  have e1 : p.tmod n < 0 → p % n = p.tmod n + n := fun h => by
    rw [Int.tmod_eq_emod] at h ⊢
    split at h
    · have := Int.emod_nonneg p (show n ≠ 0 by omega); omega
    · rename_i hc
      rw [if_neg hc]
      have : (n.natAbs : Int) = n := by omega
      omega
  have e2 : 0 ≤ p.tmod n → p % n = p.tmod n := fun h => by
    rw [Int.tmod_eq_emod] at h ⊢
    split at h
    · rename_i hc; rw [if_pos hc]; omega
    · have := Int.emod_lt_of_pos p hn
      have : (n.natAbs : Int) = n := by omega
      omega
  by_cases h0 : p.tmod n < 0
  · have E : Hid (p % n = p.tmod n + n) := e1 h0
    have hz : (n == 0) = false := by simp; omega
    clear e1 e2
    go_enter Try.func80, Try.ntmps80
    go_wp2
    all_goals (go_ret; exact ⟨ret_int (by rw [E.out]), rfl⟩)
  · have E : Hid (p % n = p.tmod n) := e2 (by omega)
    have hz : (n == 0) = false := by simp; omega
    clear e1 e2
    go_enter Try.func80, Try.ntmps80
    go_wp2
    all_goals (go_ret; exact ⟨ret_int (by rw [E.out]), rfl⟩)

theorem refOff_c (a b : Int) (w : World) : Calls Try.prog 57 #[.int .i64 a, .int .i64 b] w fun e w' => e = .returned (.int .i64 (woff a b)) ∧ w = w' := by
  go_enter Try.func57, Try.ntmps57
  go_wp2_with (go_at_call 80; refine (refMod_c _ _ (by decide) (by decide) _).mono ?_; rintro e w' ⟨rfl, rfl⟩)
  go_ret
  exact ⟨ret_int (by simp only [wrap64, woff]; omega), rfl⟩
attribute [irreducible] within
end Go.Proofs.Ytjmjnndmpeeppaa

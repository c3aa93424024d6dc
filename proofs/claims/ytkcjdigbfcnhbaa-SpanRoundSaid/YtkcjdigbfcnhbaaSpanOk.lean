/- What the functions on spans answer of spans that may be: the contracts that other packages use. Conditions: bounds of whole numbers. -/
import Derived.Test.YtkcjdigbfcnhbaaSpanLaw
namespace Go.Proofs.Ytkcjdigbfcnhbaa
open Go.ChangeShapes Go.WideShapes Go.ChangeAt Go.RowKit
set_option linter.unusedVariables false

theorem ok_fI {s n : Int} (hs : 0 ≤ s ∧ s ≤ 4294967295) (hn : 0 ≤ n ∧ n ≤ 65536) : spanOk (fI s) (fI n) = true ∧ spanS (fI s) (fI n) = s ∧ spanN (fI s) (fI n) = n := by
  have h1 : isF (fI s) 4294967295 = true := by rw [fI_of hs.1, isF_FN _ _ (by omega) (by decide)]; simp; omega
  have h2 : isF (fI n) 65536 = true := by rw [fI_of hn.1, isF_FN _ _ (by omega) (by decide)]; simp; omega
  have h0 : spanOk (fI s) (fI n) = true := by unfold spanOk; rw [h1, h2]; rfl
  refine ⟨h0, ?_, ?_⟩
  · unfold spanS; rw [if_pos h0, fI_of hs.1, cutF_FN _ (by omega)]; omega
  · unfold spanN; rw [if_pos h0, fI_of hn.1, cutF_FN _ (by omega)]; omega

theorem of_ok_c (s n : Int) (hs : 0 ≤ s ∧ s ≤ 4294967295) (hn : 0 ≤ n ∧ n ≤ 65536) (w : World) : Calls Try.prog 29 #[.int .i64 s, .int .i64 n] w fun e w' => e = .returned (.tuple #[.complex .f64 (fI s) (fI n), .int .i64 0]) ∧ w = w' := by
  have h := spanOf_c s n w
  obtain ⟨k1, k2, k3⟩ := of_t (ofOk_mk (s := s) (n := n) ⟨hs.1, hs.2, hn.1, hn.2⟩)
  rw [k1, k2, k3] at h
  exact h

theorem parts_ok_c (s n : Int) (hs : 0 ≤ s ∧ s ≤ 4294967295) (hn : 0 ≤ n ∧ n ≤ 65536) (w : World) : Calls Try.prog 33 #[.complex .f64 (fI s) (fI n)] w fun e w' => e = .returned (.tuple #[.int .i64 s, .int .i64 n, .int .i64 0]) ∧ w = w' := by
  have h := parts_c (fI s) (fI n) w
  obtain ⟨k1, k2, k3⟩ := ok_fI hs hn
  rw [spanE_t k1, k2, k3] at h
  exact h

theorem meet_ok_c (s n t m : Int) (hs : 0 ≤ s ∧ s ≤ 4294967295) (hn : 0 ≤ n ∧ n ≤ 65536) (ht : 0 ≤ t ∧ t ≤ 4294967295) (hm : 0 ≤ m ∧ m ≤ 65536) (w : World) :
    Calls Try.prog 39 #[.complex .f64 (fI s) (fI n), .complex .f64 (fI t) (fI m)] w fun e w' => e = .returned (.tuple #[.complex .f64 (fI (meetS s n t m)) (fI (meetN s n t m)), .int .i64 0]) ∧ w = w' := by
  have h := spanMeet_c (fI s) (fI n) (fI t) (fI m) w
  obtain ⟨k1, k2, k3⟩ := ok_fI hs hn
  obtain ⟨l1, l2, l3⟩ := ok_fI ht hm
  have hk : meetOk (fI s) (fI n) (fI t) (fI m) = true := by unfold meetOk; rw [k1, l1]; rfl
  obtain ⟨e1, e2, e3⟩ := meet_t hk
  rw [e1, e2, e3, k2, k3, l2, l3] at h
  exact h

theorem has_ok_c (s n v : Int) (b : Bool) (hs : 0 ≤ s ∧ s ≤ 4294967295) (hn : 0 ≤ n ∧ n ≤ 65536) (hv : 0 ≤ v ∧ v ≤ 4294967295) (hb : decide (woff v s < n) = b) (w : World) :
    Calls Try.prog 37 #[.complex .f64 (fI s) (fI n), .int .i64 v] w fun e w' => e = .returned (.tuple #[.bool b, .int .i64 0]) ∧ w = w' := by
  have h := spanHas_c (fI s) (fI n) v w
  obtain ⟨k1, k2, k3⟩ := ok_fI hs hn
  have hk : hasOk (fI s) (fI n) v = true := by unfold hasOk; rw [k1, within_mk (by omega)]; rfl
  obtain ⟨e1, e2⟩ := has_t hk
  rw [e1, e2, k2, k3, hb] at h
  exact h

/-- a number from 0 below n -/
def bring (i n : Int) : Int := (i % 18446744073709551616) % n
theorem bring_bd (i n : Int) (h : 0 < n) : 0 ≤ bring i n ∧ bring i n < n := ⟨Int.emod_nonneg _ (by omega), Int.emod_lt_of_pos _ h⟩
theorem within_c (i n : Int) (h0 : 0 < n) (h1 : n ≤ 4611686018427387904) (w : World) : Calls Try.prog 54 #[.int .i64 i, .int .i64 n] w fun e w' => e = .returned (.int .i64 (bring i n)) ∧ w = w' := by
  have b := bring_bd i n h0
  have hz : (n == 0) = false := by simp; omega
  have e1 : ((i % 18446744073709551616).tmod n) = (i % 18446744073709551616) % n := Int.tmod_eq_emod_of_nonneg (Int.emod_nonneg _ (by decide))
  have E : Hid (wrap64 ((i % 18446744073709551616) % n) = bring i n) := by
    have : wrap64 (bring i n) = bring i n := IntWalk.wrap64_in _ (by omega)
    exact this
  have E1 : Hid ((i % 18446744073709551616).tmod n = (i % 18446744073709551616) % n) := e1
  clear e1
  go_enter Try.func54, Try.ntmps54
  go_wp2
  go_ret
  have e2 : IntKind.u64.wrap i = i % 18446744073709551616 := IntKind.wrap_u64 i
  exact ⟨ret_int (by rw [e2, E1.out, E.out]), rfl⟩
attribute [irreducible] bring
end Go.Proofs.Ytkcjdigbfcnhbaa

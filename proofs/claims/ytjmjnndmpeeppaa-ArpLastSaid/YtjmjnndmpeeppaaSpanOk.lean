/- What the functions on spans answer of spans that may be: the contracts that other packages use. Conditions: bounds of whole numbers. -/
import Derived.Test.YtjmjnndmpeeppaaSpan
namespace Go.Proofs.Ytjmjnndmpeeppaa
open Go.RowKit
set_option linter.unusedVariables false
set_option linter.unusedSimpArgs false

theorem ok_fI {s n : Int} (hs : 0 ≤ s ∧ s ≤ 4294967295) (hn : 0 ≤ n ∧ n ≤ 65536) : spanOk (fI s) (fI n) = true ∧ spanS (fI s) (fI n) = s ∧ spanN (fI s) (fI n) = n := by
  have h1 : isF (fI s) 4294967295 = true := by rw [fI_of hs.1, isF_FN _ _ (by omega) (by decide)]; simp; omega
  have h2 : isF (fI n) 65536 = true := by rw [fI_of hn.1, isF_FN _ _ (by omega) (by decide)]; simp; omega
  have h0 : spanOk (fI s) (fI n) = true := by unfold spanOk; rw [h1, h2]; rfl
  refine ⟨h0, ?_, ?_⟩
  · unfold spanS; rw [if_pos h0, fI_of hs.1, cutF_FN _ (by omega)]; omega
  · unfold spanN; rw [if_pos h0, fI_of hn.1, cutF_FN _ (by omega)]; omega

theorem of_ok_c (s n : Int) (hs : 0 ≤ s ∧ s ≤ 4294967295) (hn : 0 ≤ n ∧ n ≤ 65536) (w : World) : Calls Try.prog 87 #[.int .i64 s, .int .i64 n] w fun e w' => e = .returned (.tuple #[.complex .f64 (fI s) (fI n), .int .i64 0]) ∧ w = w' := by
  have h := spanOf_c s n w
  obtain ⟨k1, k2, k3⟩ := of_t (ofOk_mk (s := s) (n := n) ⟨hs.1, hs.2, hn.1, hn.2⟩)
  rw [k1, k2, k3] at h
  exact h

theorem parts_ok_c (s n : Int) (hs : 0 ≤ s ∧ s ≤ 4294967295) (hn : 0 ≤ n ∧ n ≤ 65536) (w : World) : Calls Try.prog 89 #[.complex .f64 (fI s) (fI n)] w fun e w' => e = .returned (.tuple #[.int .i64 s, .int .i64 n, .int .i64 0]) ∧ w = w' := by
  have h := parts_c (fI s) (fI n) w
  obtain ⟨k1, k2, k3⟩ := ok_fI hs hn
  rw [spanE_t k1, k2, k3] at h
  exact h

theorem meet_ok_c (s n t m : Int) (hs : 0 ≤ s ∧ s ≤ 4294967295) (hn : 0 ≤ n ∧ n ≤ 65536) (ht : 0 ≤ t ∧ t ≤ 4294967295) (hm : 0 ≤ m ∧ m ≤ 65536) (w : World) :
    Calls Try.prog 88 #[.complex .f64 (fI s) (fI n), .complex .f64 (fI t) (fI m)] w fun e w' => e = .returned (.tuple #[.complex .f64 (fI (meetS s n t m)) (fI (meetN s n t m)), .int .i64 0]) ∧ w = w' := by
  have h := spanMeet_c (fI s) (fI n) (fI t) (fI m) w
  obtain ⟨k1, k2, k3⟩ := ok_fI hs hn
  obtain ⟨l1, l2, l3⟩ := ok_fI ht hm
  have hk : meetOk (fI s) (fI n) (fI t) (fI m) = true := by unfold meetOk; rw [k1, l1]; rfl
  obtain ⟨e1, e2, e3⟩ := meet_t hk
  rw [e1, e2, e3, k2, k3, l2, l3] at h
  exact h


end Go.Proofs.Ytjmjnndmpeeppaa

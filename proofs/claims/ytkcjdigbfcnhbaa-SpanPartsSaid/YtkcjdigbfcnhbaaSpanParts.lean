/- The walk of kiosklaw12.SpanParts. -/
import Derived.Test.YtkcjdigbfcnhbaaSpanLaw
namespace Go.Proofs.Ytkcjdigbfcnhbaa
open BigFrame
open Go.ChangeShapes Go.WideShapes Go.ChangeAt Go.RowKit
set_option linter.unusedVariables false

theorem spanParts_facts1 (S N : Int) : (ofOk S N = true ∧ ofS S N = fI S ∧ ofN S N = fI N ∧ ofE S N = 0 ∧ FloatKind.f64.format.order (fI S) (fI S) = some .eq ∧ FloatKind.f64.format.order (fI N) (fI N) = some .eq) ∨
    (ofOk S N = false ∧ ofE S N = 1 ∧ FloatKind.f64.format.order (ofS S N) 0 = some .eq ∧ FloatKind.f64.format.order (ofN S N) 0 = some .eq) := by
  cases h : ofOk S N
  · obtain ⟨h1, h2, h3⟩ := of_f h
    exact .inr ⟨rfl, h3, by rw [h1]; exact zero_self, by rw [h2]; exact zero_self⟩
  · obtain ⟨h1, h2, h3⟩ := of_t h
    have h4 : 0 ≤ S ∧ S ≤ 4294967295 ∧ 0 ≤ N ∧ N ≤ 65536 := by
      unfold ofOk at h
      simp only [Bool.and_eq_true] at h
      have := within_t h.1
      have := within_t h.2
      omega
    exact .inl ⟨rfl, h1, h2, h3, fI_self (by omega), fI_self (by omega)⟩

set_option maxRecDepth 100000 in
set_option maxHeartbeats 4000000 in
theorem spanParts_walk (a : Option Addr) (len cap : Nat) (w : World) (h : Asks12 w a len) :
    Calls Try.prog 5 #[.slice a len cap] w fun e w' => e = .returned (.bool true) ∧ Below w.heap.size w w' := by
  have hm := h.le
  go_enter Try.func5, Try.ntmps5
  go_wp2_with fail
  go_loopw [3] (fun i wr => ∃ k : Nat, k ≤ 20 ∧ k ≤ len ∧ i = .int .i64 k ∧ Below w.heap.size w wr) (fun i _ => len - (intOf i).toNat)
  case atStart => exact ⟨0, by omega, by omega, rfl, Below.refl _ _⟩
  case round =>
    obtain ⟨k, hk, hkl, rfl, hB⟩ := hrel
    by_cases hlt : k < len
    · by_cases h20 : k < 20
      · rcases h with h | ⟨b, o, rfl, hm', hx⟩
        · omega
        obtain ⟨S, T, N, M, X, p0, p1, q0, q1, hA⟩ := hx k hlt
        have hA' := hA.at hB
        have e0 := hA'.c0
        have e2 := hA'.c2
        have e5 := hA'.c5
        have e6 := hA'.c6
        clear hA hA' hx
        have F1 := spanParts_facts1 S N
        cases hp : spanOk p0 p1
        · have hE := spanE_f hp
          have hS := (span_f hp).1
          have hN := (span_f hp).2
          rcases F1 with ⟨g1, g2, g3, g4, g5, g6⟩ | ⟨g1, g4, g5, g6⟩
          all_goals
            go_wp2_with fail
            go_quiet ((go_at_call 29; exact Calls.q (spanOf_c _ _ _)))
            go_wp2_with fail
            go_quiet ((go_at_call 30; exact Calls.q (Calls.b g1 (refSpan_c _ _ _))))
            go_wp2_with fail
            go_quiet ((first | (go_at_call 31; exact Calls.q (num12_c _ _)) | (go_at_call 32; exact Calls.q (refOf_c _ _ _))))
            go_wp2_with fail
            go_quiet (fail)
            go_wp2_with (first | (go_at_call 33; (with_reducible refine (parts_c _ _ _).mono ?_); rintro e w' ⟨rfl, rfl⟩) | (go_at_call 34; (with_reducible refine (refParts_c _ _ _).mono ?_); rintro e w' ⟨rfl, rfl⟩) | (go_at_call 31; (with_reducible refine (num12_c _ _).mono ?_); rintro e w' ⟨rfl, rfl⟩))
            go_roundw
            case rel => exact ⟨k + 1, by omega, by omega, by go_num, hB.trans (Below.drewN _)⟩
            case measure => simp [intOf]; omega
        · have hE := spanE_t hp
          have hS := (ref_t hp).1
          have hN := (ref_t hp).2
          rcases F1 with ⟨g1, g2, g3, g4, g5, g6⟩ | ⟨g1, g4, g5, g6⟩
          all_goals
            go_wp2_with fail
            go_quiet ((go_at_call 29; exact Calls.q (spanOf_c _ _ _)))
            go_wp2_with fail
            go_quiet ((go_at_call 30; exact Calls.q (Calls.b g1 (refSpan_c _ _ _))))
            go_wp2_with fail
            go_quiet ((first | (go_at_call 31; exact Calls.q (num12_c _ _)) | (go_at_call 32; exact Calls.q (refOf_c _ _ _))))
            go_wp2_with fail
            go_quiet (fail)
            go_wp2_with (first | (go_at_call 33; (with_reducible refine (parts_c _ _ _).mono ?_); rintro e w' ⟨rfl, rfl⟩) | (go_at_call 34; (with_reducible refine (refParts_c _ _ _).mono ?_); rintro e w' ⟨rfl, rfl⟩) | (go_at_call 31; (with_reducible refine (num12_c _ _).mono ?_); rintro e w' ⟨rfl, rfl⟩))
            go_roundw
            case rel => exact ⟨k + 1, by omega, by omega, by go_num, hB.trans (Below.drewN _)⟩
            case measure => simp [intOf]; omega
      · go_wp2_with (go_at_call 19; (with_reducible refine (wakes12_c _).mono ?_); rintro e w' ⟨rfl, rfl⟩)
        go_ret
        exact ⟨rfl, hB⟩
    · go_wp2_with (go_at_call 19; (with_reducible refine (wakes12_c _).mono ?_); rintro e w' ⟨rfl, rfl⟩)
      go_ret
      exact ⟨rfl, hB⟩
end Go.Proofs.Ytkcjdigbfcnhbaa

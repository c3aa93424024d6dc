/- The walk of kiosklaw12.SpanHas. -/
import Derived.Test.YtkcjdigbfcnhbaaSpanLaw
namespace Go.Proofs.Ytkcjdigbfcnhbaa
open Go.ChangeShapes Go.WideShapes Go.ChangeAt Go.RowKit
set_option linter.unusedVariables false

set_option maxRecDepth 100000 in
set_option maxHeartbeats 4000000 in
theorem spanHas_walk (a : Option Addr) (len cap : Nat) (w : World) (h : Asks12 w a len) :
    Calls Try.prog 6 #[.slice a len cap] w fun e w' => e = .returned (.bool true) ∧ Below w.heap.size w w' := by
  have hm := h.le
  go_enter Try.func6, Try.ntmps6
  go_wp2_with fail
  go_loopw [3] (fun i wr => ∃ k : Nat, k ≤ 20 ∧ k ≤ len ∧ i = .int .i64 k ∧ Below w.heap.size w wr) (fun i _ => len - (intOf i).toNat)
  case atStart => exact ⟨0, by omega, by omega, rfl, Below.refl _ _⟩
  case round =>
    obtain ⟨k, hk, hkl, rfl, hB⟩ := hrel
    by_cases hlt : k < len
    · by_cases h20 : k < 20
      · rcases h with h | ⟨b, o, rfl, hm', hx⟩
        · omega
        obtain ⟨S, T, N, M, X, p0, p1, q0, q1, hA⟩ := hx k hlt
        have hA' := hA.at hB
        have e4 := hA'.c4
        have e5 := hA'.c5
        have e6 := hA'.c6
        clear hA hA' hx
        have F : (spanOk p0 p1 = true ∧ within X 4294967295 = true ∧ spanE p0 p1 = 0 ∧ refS p0 p1 = spanS p0 p1 ∧ refN p0 p1 = spanN p0 p1 ∧ hasB p0 p1 X = decide (woff X (spanS p0 p1) < spanN p0 p1) ∧ hasE p0 p1 X = 0) ∨
            (spanOk p0 p1 = true ∧ within X 4294967295 = false ∧ hasB p0 p1 X = false ∧ hasE p0 p1 X = 1) ∨ (spanOk p0 p1 = false ∧ hasB p0 p1 X = false ∧ hasE p0 p1 X = 1) := by
          cases hp : spanOk p0 p1
          · have K : hasOk p0 p1 X = false := by unfold hasOk; rw [hp]; rfl
            exact .inr (.inr ⟨rfl, (has_f K).1, (has_f K).2⟩)
          · cases hx : within X 4294967295
            · have K : hasOk p0 p1 X = false := by unfold hasOk; rw [hp, hx]; rfl
              exact .inr (.inl ⟨rfl, rfl, (has_f K).1, (has_f K).2⟩)
            · have K : hasOk p0 p1 X = true := by unfold hasOk; rw [hp, hx]; rfl
              exact .inl ⟨rfl, rfl, spanE_t hp, (ref_t hp).1, (ref_t hp).2, (has_t K).1, (has_t K).2⟩
        rcases F with ⟨f1, f2, f3, f4, f5, f6, f7⟩ | ⟨f1, f2, f3, f4⟩ | ⟨f1, f3, f4⟩
        all_goals
            go_wp2_with fail
            go_quiet (fail)
            go_wp2_with (first | (go_at_call 34; (with_reducible refine (refParts_c _ _ _).mono ?_); rintro e w' ⟨rfl, rfl⟩) | (go_at_call 35; (with_reducible refine (refWord_c _ _).mono ?_); rintro e w' ⟨rfl, rfl⟩) | (go_at_call 36; (with_reducible refine (refHas_c _ _ _ _).mono ?_); rintro e w' ⟨rfl, rfl⟩) | (go_at_call 37; (with_reducible refine (spanHas_c _ _ _ _).mono ?_); rintro e w' ⟨rfl, rfl⟩) | (go_at_call 31; (with_reducible refine (num12_c _ _).mono ?_); rintro e w' ⟨rfl, rfl⟩))
            go_roundw
            case rel => exact ⟨k + 1, by omega, by omega, by go_num, hB.trans (Below.drewN _)⟩
            case measure => simp [intOf]; omega
      · go_wp2_with (go_at_call 19; (with_reducible refine (wakes12_c _).mono ?_); rintro e w' ⟨rfl, rfl⟩)
        go_ret
        exact ⟨rfl, hB⟩
    · go_wp2_with (go_at_call 19; (with_reducible refine (wakes12_c _).mono ?_); rintro e w' ⟨rfl, rfl⟩)
      go_ret
      exact ⟨rfl, hB⟩
end Go.Proofs.Ytkcjdigbfcnhbaa

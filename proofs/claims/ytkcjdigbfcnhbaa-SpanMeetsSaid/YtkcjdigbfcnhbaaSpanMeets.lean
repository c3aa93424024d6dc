/- The walk of kiosklaw12.SpanMeets. -/
import Derived.Test.YtkcjdigbfcnhbaaSpanLaw
namespace Go.Proofs.Ytkcjdigbfcnhbaa
open Go.ChangeShapes Go.WideShapes Go.ChangeAt Go.RowKit
set_option linter.unusedVariables false

set_option maxRecDepth 100000 in
set_option maxHeartbeats 4000000 in
theorem spanMeets_walk (a : Option Addr) (len cap : Nat) (w : World) (h : Asks12 w a len) :
    Calls Try.prog 7 #[.slice a len cap] w fun e w' => e = .returned (.bool true) ∧ Below w.heap.size w w' := by
  have hm := h.le
  go_enter Try.func7, Try.ntmps7
  go_wp2_with fail
  go_loopw [3] (fun i wr => ∃ k : Nat, k ≤ 20 ∧ k ≤ len ∧ i = .int .i64 k ∧ Below w.heap.size w wr) (fun i _ => len - (intOf i).toNat)
  case atStart => exact ⟨0, by omega, by omega, rfl, Below.refl _ _⟩
  case round =>
    obtain ⟨k, hk, hkl, rfl, hB⟩ := hrel
    by_cases hlt : k < len
    · by_cases h20 : k < 20
      · rcases h with h | ⟨b, o, rfl, hm', hx⟩
        · omega
        obtain ⟨S, T, N, M, X, p0, p1, q0, q1, hA⟩ := hx k hlt
        have hA' := hA.at hB
        have e5 := hA'.c5
        have e6 := hA'.c6
        have e7 := hA'.c7
        have e8 := hA'.c8
        clear hA hA' hx
        have F : (spanOk p0 p1 = true ∧ spanOk q0 q1 = true ∧ (0 ≤ spanS p0 p1 ∧ spanS p0 p1 ≤ 4294967295) ∧ (0 ≤ spanN p0 p1 ∧ spanN p0 p1 ≤ 65536) ∧ (0 ≤ spanS q0 q1 ∧ spanS q0 q1 ≤ 4294967295) ∧ (0 ≤ spanN q0 q1 ∧ spanN q0 q1 ≤ 65536) ∧
            refS p0 p1 = spanS p0 p1 ∧ refN p0 p1 = spanN p0 p1 ∧ refS q0 q1 = spanS q0 q1 ∧ refN q0 q1 = spanN q0 q1 ∧
            meetR p0 p1 q0 q1 = fI (meetS (spanS p0 p1) (spanN p0 p1) (spanS q0 q1) (spanN q0 q1)) ∧ meetI p0 p1 q0 q1 = fI (meetN (spanS p0 p1) (spanN p0 p1) (spanS q0 q1) (spanN q0 q1)) ∧ meetE p0 p1 q0 q1 = 0 ∧
            FloatKind.f64.format.order (fI (meetS (spanS p0 p1) (spanN p0 p1) (spanS q0 q1) (spanN q0 q1))) (fI (meetS (spanS p0 p1) (spanN p0 p1) (spanS q0 q1) (spanN q0 q1))) = some .eq ∧
            FloatKind.f64.format.order (fI (meetN (spanS p0 p1) (spanN p0 p1) (spanS q0 q1) (spanN q0 q1))) (fI (meetN (spanS p0 p1) (spanN p0 p1) (spanS q0 q1) (spanN q0 q1))) = some .eq) ∨
            (spanOk p0 p1 = true ∧ spanOk q0 q1 = false ∧ meetE p0 p1 q0 q1 = 1 ∧ FloatKind.f64.format.order (meetR p0 p1 q0 q1) 0 = some .eq ∧ FloatKind.f64.format.order (meetI p0 p1 q0 q1) 0 = some .eq) ∨
            (spanOk p0 p1 = false ∧ meetE p0 p1 q0 q1 = 1 ∧ FloatKind.f64.format.order (meetR p0 p1 q0 q1) 0 = some .eq ∧ FloatKind.f64.format.order (meetI p0 p1 q0 q1) 0 = some .eq) := by
          cases hp : spanOk p0 p1
          · have K : meetOk p0 p1 q0 q1 = false := by unfold meetOk; rw [hp]; rfl
            obtain ⟨k1, k2, k3⟩ := meet_f K
            exact .inr (.inr ⟨rfl, k3, by rw [k1]; exact zero_self, by rw [k2]; exact zero_self⟩)
          · cases hq : spanOk q0 q1
            · have K : meetOk p0 p1 q0 q1 = false := by unfold meetOk; rw [hp, hq]; rfl
              obtain ⟨k1, k2, k3⟩ := meet_f K
              exact .inr (.inl ⟨rfl, rfl, k3, by rw [k1]; exact zero_self, by rw [k2]; exact zero_self⟩)
            · have K : meetOk p0 p1 q0 q1 = true := by unfold meetOk; rw [hp, hq]; rfl
              obtain ⟨k1, k2, k3⟩ := meet_t K
              have b1 := spanOk_bd hp
              have b2 := spanOk_bd hq
              have b3 := meet_bd (spanS p0 p1) (spanN p0 p1) (spanS q0 q1) (spanN q0 q1) (by omega)
              exact .inl ⟨rfl, rfl, ⟨b1.1, b1.2.1⟩, b1.2.2, ⟨b2.1, b2.2.1⟩, b2.2.2, (ref_t hp).1, (ref_t hp).2, (ref_t hq).1, (ref_t hq).2, k1, k2, k3, fI_self (by omega), fI_self (by omega)⟩
        rcases F with ⟨f1, f2, f3, f4, f5, f6, f7, f8, f9, f10, f11, f12, f13, f14, f15⟩ | ⟨f1, f2, f3, f4, f5⟩ | ⟨f1, f3, f4, f5⟩
        all_goals
            go_wp2_with fail
            go_quiet (fail)
            go_wp2_with (first | (go_at_call 34; (with_reducible refine (refParts_c _ _ _).mono ?_); rintro e w' ⟨rfl, rfl⟩) | (go_at_call 38; (with_reducible refine (refMeet_c _ _ _ _ f3 f5 f4 f6 _).mono ?_); rintro e w' ⟨rfl, rfl⟩) | (go_at_call 39; (with_reducible refine (spanMeet_c _ _ _ _ _).mono ?_); rintro e w' ⟨rfl, rfl⟩) | (go_at_call 32; (with_reducible refine (refOf_c _ _ _).mono ?_); rintro e w' ⟨rfl, rfl⟩) | (go_at_call 31; (with_reducible refine (num12_c _ _).mono ?_); rintro e w' ⟨rfl, rfl⟩))
            go_roundw
            case rel => exact ⟨k + 1, by omega, by omega, by go_num, hB.trans (Below.drewN _)⟩
            case measure => simp [intOf]; omega
      · go_wp2_with (go_at_call 19; (with_reducible refine (wakes12_c _).mono ?_); rintro e w' ⟨rfl, rfl⟩)
        go_ret
        exact ⟨rfl, hB⟩
    · go_wp2_with (go_at_call 19; (with_reducible refine (wakes12_c _).mono ?_); rintro e w' ⟨rfl, rfl⟩)
      go_ret
      exact ⟨rfl, hB⟩
end Go.Proofs.Ytkcjdigbfcnhbaa

/- The walk of kiosklaw12.SpanRound. -/
import Derived.Test.YtkcjdigbfcnhbaaSpanOk
import Derived.Test.YtkcjdigbfcnhbaaSpanCommonM
namespace Go.Proofs.Ytkcjdigbfcnhbaa
open Go.ChangeShapes Go.WideShapes Go.ChangeAt Go.RowKit
set_option linter.unusedVariables false

theorem half_f : spanOk 4602678819172646912 4607182418800017408 = false := by kernel_rfl
theorem neg_f : spanOk 4607182418800017408 13830554455654793216 = false := by kernel_rfl
theorem hasE_half (x : Int) : hasE 4602678819172646912 4607182418800017408 x = 1 := by
  have K : hasOk 4602678819172646912 4607182418800017408 x = false := by unfold hasOk; rw [half_f]; rfl
  exact (has_f K).2
theorem ofE_1 : ofE 0 65537 = 1 := by kernel_rfl
theorem ofE_2 : ofE 4294967296 1 = 1 := by kernel_rfl
theorem spanE_neg : spanE 4607182418800017408 13830554455654793216 = 1 := spanE_f neg_f

set_option maxRecDepth 100000 in
set_option maxHeartbeats 4000000 in
theorem spanRound_walk (a : Option Addr) (len cap : Nat) (w : World) (h : Asks12 w a len) :
    Calls Try.prog 13 #[.slice a len cap] w fun e w' => e = .returned (.bool true) ∧ Below w.heap.size w w' := by
  have hm := h.le
  have E1 := ofE_1
  have E2 := ofE_2
  have E3 := hasE_half 0
  have E4 := spanE_neg
  go_enter Try.func13, Try.ntmps13
  go_wp2_with fail
  go_loopw [3] (fun i wr => ∃ k : Nat, k ≤ 20 ∧ k ≤ len ∧ i = .int .i64 k ∧ Below w.heap.size w wr) (fun i _ => len - (intOf i).toNat)
  case atStart => exact ⟨0, by omega, by omega, rfl, Below.refl _ _⟩
  case round =>
    obtain ⟨k, hk, hkl, rfl, hB⟩ := hrel
    by_cases hlt : k < len
    · by_cases h20 : k < 20
      · rcases h with h | ⟨b, o, rfl, hm', hx⟩
        · omega
        clear E1 E2 E3 E4
        obtain ⟨S, T, N, M, X, p0, p1, q0, q1, hA⟩ := hx k hlt
        have hA' := hA.at hB
        have e2 := hA'.c2
        have e3 := hA'.c3
        clear hA hA' hx
        obtain ⟨n, hn⟩ : ∃ n, bring N 100 = n := ⟨_, rfl⟩
        obtain ⟨x, hx⟩ : ∃ x, bring M 100 = x := ⟨_, rfl⟩
        obtain ⟨s, hs⟩ : ∃ s, wadd 0 (-x) = s := ⟨_, rfl⟩
        have bn0 : 0 ≤ n ∧ n < 100 := by have := bring_bd N 100 (by decide); omega
        have bn : 0 ≤ n ∧ n ≤ 65536 := by omega
        have bx : 0 ≤ x ∧ x < 100 := by have := bring_bd M 100 (by decide); omega
        have bs : 0 ≤ s ∧ s ≤ 4294967295 := by have := wadd_bd 0 (-x); omega
        have cn : ∀ w, Calls Try.prog 54 #[.int .i64 N, .int .i64 100] w fun e w' => e = .returned (.int .i64 n) ∧ w = w' := fun w => Calls.i hn (within_c N 100 (by decide) (by decide) w)
        have cx : ∀ w, Calls Try.prog 54 #[.int .i64 M, .int .i64 100] w fun e w' => e = .returned (.int .i64 x) ∧ w = w' := fun w => Calls.i hx (within_c M 100 (by decide) (by decide) w)
        have cs : ∀ w, Calls Try.prog 15 #[.int .i64 0, .int .i64 (-x)] w fun e w' => e = .returned (.int .i64 s) ∧ w = w' := fun w => Calls.i hs (spanAdd_c 0 (-x) w)
        have HN := hid cn
        have HX := hid cx
        have HS := hid cs
        have Hs := hid hs
        clear cn cx cs hn hx hs
        go_wp2_with (first | (go_at_call 54; (with_reducible refine (HN.out _).mono ?_); rintro e w' ⟨rfl, rfl⟩) | (go_at_call 54; (with_reducible refine (HX.out _).mono ?_); rintro e w' ⟨rfl, rfl⟩) | (go_at_call 15; (with_reducible refine (HS.out _).mono ?_); rintro e w' ⟨rfl, rfl⟩) | (go_at_call 29; (with_reducible refine (of_ok_c _ _ bs bn _).mono ?_); rintro e w' ⟨rfl, rfl⟩) | (go_at_call 31; (with_reducible refine (num12_c _ _).mono ?_); rintro e w' ⟨rfl, rfl⟩))
        clear HN HX HS
        go_loop [8, 9] (fun c i => ∃ j : Int, -110 ≤ j ∧ j ≤ 210 ∧ i = .int .i64 j ∧ c = .int .i64 (max 0 (min (j + x) n))) (fun _ i => (210 - intOf i).toNat)
        case atStart => exact ⟨-110, by omega, by omega, rfl, by rw [show max 0 (min (-110 + x) n) = 0 by omega]⟩
        case round =>
          obtain ⟨j, hj1, hj2, rfl, rfl⟩ := hrel
          by_cases hj : j < 210
          · obtain ⟨v, hv⟩ : ∃ v, wadd 0 j = v := ⟨_, rfl⟩
            obtain ⟨c, hc⟩ : ∃ c, max 0 (min (j + x) n) = c := ⟨_, rfl⟩
            have bv : 0 ≤ v ∧ v ≤ 4294967295 := by have := wadd_bd 0 j; omega
            have cv : ∀ w, Calls Try.prog 15 #[.int .i64 0, .int .i64 j] w fun e w' => e = .returned (.int .i64 v) ∧ w = w' := fun w => Calls.i hv (spanAdd_c 0 j w)
            by_cases hin : 0 ≤ j + x ∧ j + x < n
            · have ha : decide (woff v s < n) = true := by
                rw [decide_eq_true_eq, ← hv, ← Hs.out]; unfold woff wadd; omega
              have c1 := has_ok_c s n v _ bs bn bv ha
              have CV := hid cv
              have C1 := hid c1
              have hc2 : Hid (max 0 (min (j + 1 + x) n) = c + 1) := by unfold Hid; omega
              have bc : 0 ≤ c ∧ c ≤ 100 := by omega
              rw [hc]
              clear cv c1 ha hv hc
              go_wp2_with (first | (go_at_call 15; (with_reducible refine (CV.out _).mono ?_); rintro e w' ⟨rfl, rfl⟩) | (go_at_call 37; (with_reducible refine (C1.out _).mono ?_); rintro e w' ⟨rfl, rfl⟩) | (go_at_call 31; (with_reducible refine (num12_c _ _).mono ?_); rintro e w' ⟨rfl, rfl⟩))
              go_round
              case rel => exact ⟨j + 1, by omega, by omega, by go_num, by rw [hc2.out]⟩
              case measure => simp [intOf]; omega
            · have ha : decide (woff v s < n) = false := by
                rw [decide_eq_false_iff_not, ← hv, ← Hs.out]; unfold woff wadd; omega
              have c1 := has_ok_c s n v _ bs bn bv ha
              have CV := hid cv
              have C1 := hid c1
              have hc2 : Hid (max 0 (min (j + 1 + x) n) = c) := by unfold Hid; omega
              rw [hc]
              clear cv c1 ha hv hc
              go_wp2_with (first | (go_at_call 15; (with_reducible refine (CV.out _).mono ?_); rintro e w' ⟨rfl, rfl⟩) | (go_at_call 37; (with_reducible refine (C1.out _).mono ?_); rintro e w' ⟨rfl, rfl⟩) | (go_at_call 31; (with_reducible refine (num12_c _ _).mono ?_); rintro e w' ⟨rfl, rfl⟩))
              go_round
              case rel => exact ⟨j + 1, by omega, by omega, by go_num, by rw [hc2.out]⟩
              case measure => simp [intOf]; omega
          · rw [show max 0 (min (j + x) n) = n by omega]
            obtain ⟨v, hv⟩ : ∃ v, wadd s n = v := ⟨_, rfl⟩
            have bv : 0 ≤ v ∧ v ≤ 4294967295 := by have := wadd_bd s n; omega
            have cv : ∀ w, Calls Try.prog 15 #[.int .i64 s, .int .i64 n] w fun e w' => e = .returned (.int .i64 v) ∧ w = w' := fun w => Calls.i hv (spanAdd_c s n w)
            have c2 := has_ok_c s n v false bs bn bv (by rw [decide_eq_false_iff_not, ← hv]; unfold woff wadd; omega)
            have hd0 : wdiff s s = 0 := by unfold wdiff; omega
            have CV := hid cv
            have C2 := hid c2
            by_cases hn0 : 0 < n
            · have c1 := has_ok_c s n s true bs bn bs (by rw [decide_eq_true_eq]; unfold woff; omega)
              have cm : ∀ w, Calls Try.prog 39 #[.complex .f64 (fI s) (fI n), .complex .f64 (fI s) (fI n)] w fun e w' => e = .returned (.tuple #[.complex .f64 (fI s) (fI n), .int .i64 0]) ∧ w = w' := fun w => by
                have c := meet_ok_c s n s n bs bn bs bn w
                have e1 : meetS s n s n = s := by unfold meetS; rw [hd0, if_pos (by omega)]; unfold wadd; omega
                have e2 : meetN s n s n = n := by unfold meetN; rw [hd0, if_pos (by omega)]; omega
                rw [e1, e2] at c; exact c
              have o1 : FloatKind.f64.format.order (fI s) (fI s) = some .eq := fI_self (by omega)
              have o2 : FloatKind.f64.format.order (fI n) (fI n) = some .eq := fI_self (by omega)
              have C1 := hid c1
              have CM := hid cm
              have hn1 : decide (0 < n) = true := by simpa using hn0
              clear cv c1 c2 cm hv hd0
              go_wp2_with (first | (go_at_call 15; (with_reducible refine (CV.out _).mono ?_); rintro e w' ⟨rfl, rfl⟩) | (go_at_call 37; (with_reducible refine (C1.out _).mono ?_); rintro e w' ⟨rfl, rfl⟩) | (go_at_call 37; (with_reducible refine (C2.out _).mono ?_); rintro e w' ⟨rfl, rfl⟩) | (go_at_call 39; (with_reducible refine (CM.out _).mono ?_); rintro e w' ⟨rfl, rfl⟩) | (go_at_call 31; (with_reducible refine (num12_c _ _).mono ?_); rintro e w' ⟨rfl, rfl⟩))
              go_roundw
              case rel => exact ⟨k + 1, by omega, by omega, by go_num, hB⟩
              case measure => simp [intOf]; omega
            · have hn1 : decide (0 < n) = false := by simp; omega
              have c1 := has_ok_c s n s false bs bn bs (by rw [decide_eq_false_iff_not]; unfold woff; omega)
              have cm := meet_ok_c s n s n bs bn bs bn
              have C1 := hid c1
              have CM := hid cm
              clear cv c1 c2 cm hv hd0
              go_wp2_with (first | (go_at_call 15; (with_reducible refine (CV.out _).mono ?_); rintro e w' ⟨rfl, rfl⟩) | (go_at_call 37; (with_reducible refine (C1.out _).mono ?_); rintro e w' ⟨rfl, rfl⟩) | (go_at_call 37; (with_reducible refine (C2.out _).mono ?_); rintro e w' ⟨rfl, rfl⟩) | (go_at_call 39; (with_reducible refine (CM.out _).mono ?_); rintro e w' ⟨rfl, rfl⟩) | (go_at_call 31; (with_reducible refine (num12_c _ _).mono ?_); rintro e w' ⟨rfl, rfl⟩))
              go_roundw
              case rel => exact ⟨k + 1, by omega, by omega, by go_num, hB⟩
              case measure => simp [intOf]; omega
      · go_wp2_with (first | (go_at_call 19; (with_reducible refine (wakes12_c _).mono ?_); rintro e w' ⟨rfl, rfl⟩) | (go_at_call 29; (with_reducible refine (spanOf_c _ _ _).mono ?_); rintro e w' ⟨rfl, rfl⟩) | (go_at_call 37; (with_reducible refine (spanHas_c _ _ _ _).mono ?_); rintro e w' ⟨rfl, rfl⟩) | (go_at_call 33; (with_reducible refine (parts_c _ _ _).mono ?_); rintro e w' ⟨rfl, rfl⟩) | (go_at_call 31; (with_reducible refine (num12_c _ _).mono ?_); rintro e w' ⟨rfl, rfl⟩))
        go_ret
        exact ⟨rfl, hB⟩
    · go_wp2_with (first | (go_at_call 19; (with_reducible refine (wakes12_c _).mono ?_); rintro e w' ⟨rfl, rfl⟩) | (go_at_call 29; (with_reducible refine (spanOf_c _ _ _).mono ?_); rintro e w' ⟨rfl, rfl⟩) | (go_at_call 37; (with_reducible refine (spanHas_c _ _ _ _).mono ?_); rintro e w' ⟨rfl, rfl⟩) | (go_at_call 33; (with_reducible refine (parts_c _ _ _).mono ?_); rintro e w' ⟨rfl, rfl⟩) | (go_at_call 31; (with_reducible refine (num12_c _ _).mono ?_); rintro e w' ⟨rfl, rfl⟩))
      go_ret
      exact ⟨rfl, hB⟩
end Go.Proofs.Ytkcjdigbfcnhbaa

/- The walk of kiosklaw12.SpanCommon. -/
import Derived.Test.YtkcjdigbfcnhbaaSpanOk
import Derived.Test.YtkcjdigbfcnhbaaSpanCommonM
namespace Go.Proofs.Ytkcjdigbfcnhbaa
open Go.ChangeShapes Go.WideShapes Go.ChangeAt Go.RowKit
set_option linter.unusedVariables false

set_option maxRecDepth 100000 in
set_option maxHeartbeats 4000000 in
theorem spanCommon_walk (a : Option Addr) (len cap : Nat) (w : World) (h : Asks12 w a len) :
    Calls Try.prog 12 #[.slice a len cap] w fun e w' => e = .returned (.bool true) ∧ Below w.heap.size w w' := by
  have hm := h.le
  go_enter Try.func12, Try.ntmps12
  go_wp2_with fail
  go_loopw [3] (fun i wr => ∃ k : Nat, k ≤ 20 ∧ k ≤ len ∧ i = .int .i64 k ∧ Below w.heap.size w wr) (fun i _ => len - (intOf i).toNat)
  case atStart => exact ⟨0, by omega, by omega, rfl, Below.refl _ _⟩
  case round =>
    obtain ⟨k, hk, hkl, rfl, hB⟩ := hrel
    by_cases hlt : k < len
    · by_cases h20 : k < 20
      · rcases h with h | ⟨b, o, rfl, hm', hx⟩
        · omega
        obtain ⟨S, T, N, M, X, p0, p1, q0, q1, hA⟩ := hx k hlt
        have hA' := hA.at hB
        have e0 := hA'.c0
        have e1 := hA'.c1
        have e2 := hA'.c2
        have e3 := hA'.c3
        clear hA hA' hx
        obtain ⟨s, hs⟩ : ∃ s, S % 4294967296 = s := ⟨_, rfl⟩
        obtain ⟨n, hn⟩ : ∃ n, bring N 60 = n := ⟨_, rfl⟩
        obtain ⟨m, hm2⟩ : ∃ m, bring M 60 = m := ⟨_, rfl⟩
        obtain ⟨x, hx⟩ : ∃ x, bring T 120 = x := ⟨_, rfl⟩
        obtain ⟨t, ht⟩ : ∃ t, wadd s (x - 60) = t := ⟨_, rfl⟩
        have bs : 0 ≤ s ∧ s ≤ 4294967295 := by omega
        have bn : 0 ≤ n ∧ n ≤ 65536 := by have := bring_bd N 60 (by decide); omega
        have bm : 0 ≤ m ∧ m ≤ 65536 := by have := bring_bd M 60 (by decide); omega
        have bx : 0 ≤ x ∧ x < 120 := by have := bring_bd T 120 (by decide); omega
        have bt : 0 ≤ t ∧ t ≤ 4294967295 := by have := wadd_bd s (x - 60); omega
        have bd : -65536 ≤ wdiff s t ∧ wdiff s t ≤ 65536 := by rw [← ht]; unfold wdiff wadd; omega
        obtain ⟨y1, hy1⟩ : ∃ y, meetS s n t m = y := ⟨_, rfl⟩
        obtain ⟨y2, hy2⟩ : ∃ y, meetN s n t m = y := ⟨_, rfl⟩
        have sy := meet_sym bs bt bn bm bd
        have by0 := meet_bd s n t m (by omega)
        have c1 : ∀ w, Calls Try.prog 39 #[.complex .f64 (fI s) (fI n), .complex .f64 (fI t) (fI m)] w fun e w' => e = .returned (.tuple #[.complex .f64 (fI y1) (fI y2), .int .i64 0]) ∧ w = w' := fun w => by
          have c := meet_ok_c s n t m bs bn bt bm w
          rw [hy1, hy2] at c; exact c
        have c2 : ∀ w, Calls Try.prog 39 #[.complex .f64 (fI t) (fI m), .complex .f64 (fI s) (fI n)] w fun e w' => e = .returned (.tuple #[.complex .f64 (fI y1) (fI y2), .int .i64 0]) ∧ w = w' := fun w => by
          have c := meet_ok_c t m s n bt bm bs bn w
          rw [← sy.1, ← sy.2, hy1, hy2] at c; exact c
        rw [hy1, hy2] at by0
        have o1 : FloatKind.f64.format.order (fI y1) (fI y1) = some .eq := fI_self (by omega)
        have o2 : FloatKind.f64.format.order (fI y2) (fI y2) = some .eq := fI_self (by omega)
        have Hh : ∀ v, 0 ≤ v ∧ v ≤ 4294967295 → decide (woff v y1 < y2) = (decide (woff v s < n) && decide (woff v t < m)) := fun v hv => by
          have := meet_has bs bt bn bm hv bd
          rw [hy1, hy2] at this; exact this
        have HH := hid Hh
        have cs : ∀ w, Calls Try.prog 14 #[.int .i64 S] w fun e w' => e = .returned (.int .i64 s) ∧ w = w' := fun w => Calls.i hs (whole12_c S w)
        have cn : ∀ w, Calls Try.prog 54 #[.int .i64 N, .int .i64 60] w fun e w' => e = .returned (.int .i64 n) ∧ w = w' := fun w => Calls.i hn (within_c N 60 (by decide) (by decide) w)
        have cm : ∀ w, Calls Try.prog 54 #[.int .i64 M, .int .i64 60] w fun e w' => e = .returned (.int .i64 m) ∧ w = w' := fun w => Calls.i hm2 (within_c M 60 (by decide) (by decide) w)
        have cx : ∀ w, Calls Try.prog 54 #[.int .i64 T, .int .i64 120] w fun e w' => e = .returned (.int .i64 x) ∧ w = w' := fun w => Calls.i hx (within_c T 120 (by decide) (by decide) w)
        have ct : ∀ w, Calls Try.prog 15 #[.int .i64 s, .int .i64 (x - 60)] w fun e w' => e = .returned (.int .i64 t) ∧ w = w' := fun w => Calls.i ht (spanAdd_c s (x - 60) w)
        have HS := hid cs
        have HN := hid cn
        have HM := hid cm
        have HX := hid cx
        have HT := hid ct
        have C1 := hid c1
        have C2 := hid c2
        have BY : Hid (0 ≤ y1 ∧ y1 ≤ 4294967295) := ⟨by0.1, by0.2.1⟩
        have BZ : Hid (0 ≤ y2 ∧ y2 ≤ 65536) := ⟨by0.2.2.1, by0.2.2.2⟩
        clear Hh c1 c2 hs hn hm2 hx ht sy hy1 hy2 by0 bd cs cn cm cx ct
        go_wp2_with fail
        go_quiet ((first | (go_at_call 14; with_reducible exact Calls.q (HS.out _)) | (go_at_call 54; with_reducible exact Calls.q (HN.out _)) | (go_at_call 54; with_reducible exact Calls.q (HM.out _))))
        go_wp2_with (first | (go_at_call 54; (with_reducible refine (HX.out _).mono ?_); rintro e w' ⟨rfl, rfl⟩) | (go_at_call 15; (with_reducible refine (HT.out _).mono ?_); rintro e w' ⟨rfl, rfl⟩) | (go_at_call 29; (with_reducible refine (of_ok_c _ _ bs bn _).mono ?_); rintro e w' ⟨rfl, rfl⟩) | (go_at_call 29; (with_reducible refine (of_ok_c _ _ bt bm _).mono ?_); rintro e w' ⟨rfl, rfl⟩) | (go_at_call 39; (with_reducible refine (C1.out _).mono ?_); rintro e w' ⟨rfl, rfl⟩) | (go_at_call 39; (with_reducible refine (C2.out _).mono ?_); rintro e w' ⟨rfl, rfl⟩) | (go_at_call 31; (with_reducible refine (num12_c _ _).mono ?_); rintro e w' ⟨rfl, rfl⟩))
        have hB2 : Below w.heap.size w (wr.drewN nq) := hB.trans (Below.drewN _)
        generalize wr.drewN nq = wq at *
        clear HS HN HM HX HT C1 C2 o1 o2 hB e0 e1 e2 e3
        go_loop [16] (fun i => ∃ j : Int, -130 ≤ j ∧ j ≤ 130 ∧ i = .int .i64 j) (fun i => (130 - intOf i).toNat)
        case atStart => exact ⟨-130, by omega, by omega, rfl⟩
        case round =>
          obtain ⟨j, hj1, hj2, rfl⟩ := hrel
          by_cases hj : j < 130
          · obtain ⟨v, hv⟩ : ∃ v, wadd s j = v := ⟨_, rfl⟩
            have bv : 0 ≤ v ∧ v ≤ 4294967295 := by have := wadd_bd s j; omega
            have hh := HH.out v bv
            obtain ⟨a1, ha1⟩ : ∃ b, decide (woff v s < n) = b := ⟨_, rfl⟩
            obtain ⟨a2, ha2⟩ : ∃ b, decide (woff v t < m) = b := ⟨_, rfl⟩
            rw [ha1, ha2] at hh
            have cv : ∀ w, Calls Try.prog 15 #[.int .i64 s, .int .i64 j] w fun e w' => e = .returned (.int .i64 v) ∧ w = w' := fun w => Calls.i hv (spanAdd_c s j w)
            have c1 := has_ok_c s n v a1 bs bn bv ha1
            have c2 := has_ok_c t m v a2 bt bm bv ha2
            have c3 := has_ok_c y1 y2 v _ BY.out BZ.out bv hh
            have CV := hid cv
            have C1 := hid c1
            have C2 := hid c2
            have C3 := hid c3
            clear cv c1 c2 c3 hh ha1 ha2 hv
            cases a1 <;> cases a2
            all_goals
              simp only [Bool.and_true, Bool.and_false] at C3
              go_wp2_with (first | (go_at_call 15; (with_reducible refine (CV.out _).mono ?_); rintro e w' ⟨rfl, rfl⟩) | (go_at_call 37; (with_reducible refine (C1.out _).mono ?_); rintro e w' ⟨rfl, rfl⟩) | (go_at_call 37; (with_reducible refine (C2.out _).mono ?_); rintro e w' ⟨rfl, rfl⟩) | (go_at_call 37; (with_reducible refine (C3.out _).mono ?_); rintro e w' ⟨rfl, rfl⟩) | (go_at_call 31; (with_reducible refine (num12_c _ _).mono ?_); rintro e w' ⟨rfl, rfl⟩))
              go_round
              case rel => exact ⟨j + 1, by omega, by omega, by go_num⟩
              case measure => simp [intOf]; omega
          · go_wp2
            go_roundw
            case rel => exact ⟨k + 1, by omega, by omega, by go_num, hB2⟩
            case measure => simp [intOf]; omega
      · go_wp2_with (go_at_call 19; (with_reducible refine (wakes12_c _).mono ?_); rintro e w' ⟨rfl, rfl⟩)
        go_ret
        exact ⟨rfl, hB⟩
    · go_wp2_with (go_at_call 19; (with_reducible refine (wakes12_c _).mono ?_); rintro e w' ⟨rfl, rfl⟩)
      go_ret
      exact ⟨rfl, hB⟩
end Go.Proofs.Ytkcjdigbfcnhbaa

/- The walk of kiosklaw15.TimerLonger. -/
import Derived.Test.YtkcjdigbfcnhbaaTimerAt
import Derived.Test.YtkcjdigbfcnhbaaArgs15
namespace Go.Proofs.Ytkcjdigbfcnhbaa
open Go.ChangeShapes Go.WideShapes Go.ChangeAt Go.RowKit
set_option linter.unusedVariables false

theorem tick_on (l wt tr : Int) (h1 : 1 ≤ l ∧ l ≤ 48) (h2 : 0 ≤ wt ∧ wt ≤ 48) (h3 : 0 ≤ tr ∧ tr ≤ 8) (r : Bool) (hr : decide (l = 1) = r) (w : World) : Calls Try.prog 46 #[.agg #[.bool true, .int .i64 l, .int .i64 wt, .int .i64 tr]] w fun e w' =>
    e = .returned (.tuple #[.agg #[.bool true, .int .i64 (l - 1), .int .i64 wt, .int .i64 tr], .bool r, .int .i64 0]) ∧ Below w.heap.size w w' := by
  have c := timerTick_t true l wt tr (tmMay_mk (by omega) h2 h3 (by simp)) w
  have e1 : tickL true l = l - 1 := by unfold tickL beatL; simp; omega
  have e2 : tickR true l = r := by
    rw [← hr]; unfold tickR beatL
    rw [Bool.eq_iff_iff]; simp; omega
  rw [e1, e2] at c
  exact c

set_option maxRecDepth 100000 in
set_option maxHeartbeats 4000000 in
theorem timerLonger_walk (cs : Array Value) (w : World) (h : Script15 w cs) :
    Calls Try.prog 10 #[.agg cs] w fun e w' => e = .returned (.bool true) ∧ Below w.heap.size w w' := by
  obtain ⟨on, l, wt, tr, a, len, cap, rfl, bl, bw, bt, hlen, -⟩ := h
  go_enter Try.func10, Try.ntmps10
  go_wp2_with fail
  have hp : (w.alloc (.cells #[.bool on, .int .i64 l, .int .i64 wt, .int .i64 tr, .slice a len cap] 74)).cell? ⟨w.heap.size, 4, none⟩ = some (.slice a len cap) := by simp [go_sem]
  have hz : w.heap.size < (w.alloc (.cells #[.bool on, .int .i64 l, .int .i64 wt, .int .i64 tr, .slice a len cap] 74)).heap.size := by simp
  have hBW : Below w.heap.size w (w.alloc (.cells #[.bool on, .int .i64 l, .int .i64 wt, .int .i64 tr, .slice a len cap] 74)) := (by repeat (first | (with_reducible exact Below.refl _ _) | (with_reducible assumption) | ((with_reducible refine Below.alloc ?_ ?_ _); rotate_left; focus (first | (simp; done) | (simp; omega) | omega)) | ((with_reducible refine Below.setCell ?_ ?_ _); rotate_left; focus (first | (simp; done) | (simp; omega) | omega)) | (with_reducible refine Below.drew ?_) | ((with_reducible apply Below.then); rotate_left; (with_reducible assumption))))
  generalize w.alloc (.cells #[.bool on, .int .i64 l, .int .i64 wt, .int .i64 tr, .slice a len cap] 74) = W at *
  go_loopw [3] (fun i wr => ∃ n : Int, 1 ≤ n ∧ n ≤ 52 ∧ i = .int .i64 n ∧ Below W.heap.size W wr) (fun i _ => (52 - intOf i).toNat)
  case atStart => exact ⟨1, by omega, by omega, rfl, Below.refl _ _⟩
  case round =>
    obtain ⟨n, hn1, hn2, rfl, hB⟩ := hrel
    have hpw := (hB.cell (p := ⟨w.heap.size, 4, none⟩) hz).trans hp
    have hzr : W.heap.size ≤ wr.heap.size := hB.size
    by_cases hn : n ≤ 48
    · have c0 := hid (timerStart_t n ⟨hn1, hn⟩)
      go_wp2_with (first | (go_at_call 44; (with_reducible refine (c0.out _).mono ?_); rintro e w1 ⟨rfl, hb1⟩; have hz1 := hb1.size; (try simp at hz1)) | (go_at_call 45; (with_reducible refine (num15_c _ _).mono ?_); rintro e w' ⟨rfl, rfl⟩))
      have hT := TmIs.new w1 true n n 0 71
      have hW1 : Below W.heap.size W w1 := hB.then hb1
      have hW2 : Below W.heap.size W (w1.alloc (.cells #[.bool true, .int .i64 n, .int .i64 n, .int .i64 0] 71)) := hW1.alloc hW1.size _
      have hbz : W.heap.size ≤ w1.heap.size := hW1.size
      generalize w1.alloc (.cells #[.bool true, .int .i64 n, .int .i64 n, .int .i64 0] 71) = W2 at *
      generalize w1.heap.size = bb at *
      clear hW1 hb1 hz1 hB hpw hzr c0
      obtain ⟨wo, rfl⟩ : ∃ wo : World, wo = wr := ⟨_, rfl⟩
      go_loopw [6, 7] (fun x y wr => ∃ v k : Int, 1 ≤ v ∧ v ≤ 48 ∧ 0 ≤ k ∧ k ≤ 8 ∧ x = .int .i64 v ∧ y = .int .i64 k ∧ TmIs wr bb true v v k ∧ Below W.heap.size W wr) (fun _ y _ => (9 - intOf y).toNat)
      case atStart => exact ⟨n, 0, by omega, by omega, by omega, by omega, rfl, rfl, hT, hW2⟩
      case round =>
        obtain ⟨v, k, hv1, hv2, hk1, hk2, rfl, rfl, hT2, hB2⟩ := hrel
        clear hT hW2
        go_wp2_with fail
        obtain ⟨wo2, rfl⟩ : ∃ wo2 : World, wo2 = wr := ⟨_, rfl⟩
        go_loopw [8] (fun x wr => ∃ j : Int, 1 ≤ j ∧ j ≤ v + 1 ∧ x = .int .i64 j ∧ TmIs wr bb true (v + 1 - j) v k ∧ Below W.heap.size W wr) (fun x _ => (v + 1 - intOf x).toNat)
        case atStart => exact ⟨1, by omega, by omega, rfl, by rw [show v + 1 - 1 = v by omega]; exact hT2, hB2⟩
        case round =>
          obtain ⟨j, hj1, hj2, rfl, hT3, hB3⟩ := hrel
          clear hT2 hB2
          by_cases hj : j ≤ v
          · obtain ⟨r, hr⟩ : ∃ r, decide (v + 1 - j = 1) = r := ⟨_, rfl⟩
            obtain ⟨u, hu⟩ : ∃ u, v + 1 - j = u := ⟨_, rfl⟩
            rw [hu] at hT3 hr
            have c1 := tick_on u v k (by omega) (by omega) (by omega) r hr
            have C1 := hid c1
            have hjr : (j == v) = r := by rw [← hr, Bool.eq_iff_iff]; simp; omega
            have hu2 : Hid (v + 1 - (j + 1) = u - 1) := by unfold Hid; omega
            have hT4 := hid hT3
            obtain ⟨e0, e1, e2, e3, f0, f1, f2, f3⟩ := hT3
            have hbb : bb < wr.heap.size := hT4.out.lt
            have hzW := hB3.size
            clear c1 hr hu
            cases r
            all_goals
              go_wp2_with (first | (go_at_call 46; (with_reducible refine (C1.out _).mono ?_); rintro e w1 ⟨rfl, hb1⟩; have hz1 := hb1.size; (try simp at hz1); have hl1a : bb < w1.heap.size := (by first | omega | (simp; done) | (simp; omega)); have hc1a := fun o => hb1.cell (p := ⟨bb, o, none⟩) (by first | omega | (simp; done) | (simp; omega)); have hf1a := fun o => hb1.frozen (p := ⟨bb, o, none⟩) (by first | omega | (simp; done) | (simp; omega))) | (go_at_call 45; (with_reducible refine (num15_c _ _).mono ?_); rintro e w' ⟨rfl, rfl⟩))
              go_roundw
              case rel => exact ⟨j + 1, by omega, by omega, by go_num, by rw [hu2.out]; exact ((hT4.out.at hb1).store _ _ _ _).alloc _, (by repeat (first | (with_reducible exact Below.refl _ _) | (with_reducible assumption) | ((with_reducible refine Below.alloc ?_ ?_ _); rotate_left; focus (first | (simp; done) | (simp; omega) | omega)) | ((with_reducible refine Below.setCell ?_ ?_ _); rotate_left; focus (first | (simp; done) | (simp; omega) | omega)) | (with_reducible refine Below.drew ?_) | ((with_reducible apply Below.then); rotate_left; (with_reducible assumption))))⟩
              case measure => simp [intOf]; omega
          · have hT4 := hid hT3
            rw [show v + 1 - j = 0 by omega] at hT3 hT4
            obtain ⟨e0, e1, e2, e3, f0, f1, f2, f3⟩ := hT3
            have hbb : bb < wr.heap.size := hT4.out.lt
            have hzW := hB3.size
            have hpp := (hB3.cell (p := ⟨w.heap.size, 4, none⟩) hz).trans hp
            have hm8 : tmMay true 0 v k = true := tmMay_mk (by omega) (by omega) (by omega) (by simp)
            by_cases h8 : k = 8
            · subst h8
              have c1 := hid (timerBack_s 0 v hm8)
              clear hm8
              go_wp2_with (first | (go_at_call 47; (with_reducible refine (c1.out _).mono ?_); rintro e w1 ⟨rfl, hb1⟩; have hz1 := hb1.size; (try simp at hz1); have hl1a : bb < w1.heap.size := (by first | omega | (simp; done) | (simp; omega)); have hc1a := fun o => hb1.cell (p := ⟨bb, o, none⟩) (by first | omega | (simp; done) | (simp; omega)); have hf1a := fun o => hb1.frozen (p := ⟨bb, o, none⟩) (by first | omega | (simp; done) | (simp; omega)); have hl1b : w.heap.size < w1.heap.size := (by first | omega | (simp; done) | (simp; omega)); have hc1b := fun o => hb1.cell (p := ⟨w.heap.size, o, none⟩) (by first | omega | (simp; done) | (simp; omega)); have hf1b := fun o => hb1.frozen (p := ⟨w.heap.size, o, none⟩) (by first | omega | (simp; done) | (simp; omega))) | (go_at_call 45; (with_reducible refine (num15_c _ _).mono ?_); rintro e w' ⟨rfl, rfl⟩))
              go_roundw
              case rel => exact ⟨n + 1 + (len : Int) % 4, by omega, by omega, by go_num, (by repeat (first | (with_reducible exact Below.refl _ _) | (with_reducible assumption) | ((with_reducible refine Below.alloc ?_ ?_ _); rotate_left; focus (first | (simp; done) | (simp; omega) | omega)) | ((with_reducible refine Below.setCell ?_ ?_ _); rotate_left; focus (first | (simp; done) | (simp; omega) | omega)) | (with_reducible refine Below.drew ?_) | ((with_reducible apply Below.then); rotate_left; (with_reducible assumption))))⟩
              case measure => simp [intOf]; omega
            · have c1 := hid (timerBack_t 0 v k hm8 h8)
              have hk8 : (k == 8) = false := by simpa using h8
              have hk7 : k ≤ 7 := by omega
              clear hm8 h8
              by_cases hv : v ≤ 23
              · have hb : backW v = 2 * v := by unfold backW; omega
                rw [hb] at c1
                clear hb
                go_wp2_with (first | (go_at_call 47; (with_reducible refine (c1.out _).mono ?_); rintro e w1 ⟨rfl, hb1⟩; have hz1 := hb1.size; (try simp at hz1); have hl1a : bb < w1.heap.size := (by first | omega | (simp; done) | (simp; omega)); have hc1a := fun o => hb1.cell (p := ⟨bb, o, none⟩) (by first | omega | (simp; done) | (simp; omega)); have hf1a := fun o => hb1.frozen (p := ⟨bb, o, none⟩) (by first | omega | (simp; done) | (simp; omega)); have hl1b : w.heap.size < w1.heap.size := (by first | omega | (simp; done) | (simp; omega)); have hc1b := fun o => hb1.cell (p := ⟨w.heap.size, o, none⟩) (by first | omega | (simp; done) | (simp; omega)); have hf1b := fun o => hb1.frozen (p := ⟨w.heap.size, o, none⟩) (by first | omega | (simp; done) | (simp; omega))) | (go_at_call 45; (with_reducible refine (num15_c _ _).mono ?_); rintro e w' ⟨rfl, rfl⟩))
                go_roundw
                case rel => exact ⟨2 * v, k + 1, by omega, by omega, by omega, by omega, by go_num, by go_num, ((hT4.out.at hb1).store _ _ _ _).alloc _, (by repeat (first | (with_reducible exact Below.refl _ _) | (with_reducible assumption) | ((with_reducible refine Below.alloc ?_ ?_ _); rotate_left; focus (first | (simp; done) | (simp; omega) | omega)) | ((with_reducible refine Below.setCell ?_ ?_ _); rotate_left; focus (first | (simp; done) | (simp; omega) | omega)) | (with_reducible refine Below.drew ?_) | ((with_reducible apply Below.then); rotate_left; (with_reducible assumption))))⟩
                case measure => simp [intOf]; omega
              · have hb : backW v = 48 := by unfold backW; omega
                rw [hb] at c1
                clear hb
                go_wp2_with (first | (go_at_call 47; (with_reducible refine (c1.out _).mono ?_); rintro e w1 ⟨rfl, hb1⟩; have hz1 := hb1.size; (try simp at hz1); have hl1a : bb < w1.heap.size := (by first | omega | (simp; done) | (simp; omega)); have hc1a := fun o => hb1.cell (p := ⟨bb, o, none⟩) (by first | omega | (simp; done) | (simp; omega)); have hf1a := fun o => hb1.frozen (p := ⟨bb, o, none⟩) (by first | omega | (simp; done) | (simp; omega)); have hl1b : w.heap.size < w1.heap.size := (by first | omega | (simp; done) | (simp; omega)); have hc1b := fun o => hb1.cell (p := ⟨w.heap.size, o, none⟩) (by first | omega | (simp; done) | (simp; omega)); have hf1b := fun o => hb1.frozen (p := ⟨w.heap.size, o, none⟩) (by first | omega | (simp; done) | (simp; omega))) | (go_at_call 45; (with_reducible refine (num15_c _ _).mono ?_); rintro e w' ⟨rfl, rfl⟩))
                go_roundw
                case rel => exact ⟨48, k + 1, by omega, by omega, by omega, by omega, by go_num, by go_num, ((hT4.out.at hb1).store _ _ _ _).alloc _, (by repeat (first | (with_reducible exact Below.refl _ _) | (with_reducible assumption) | ((with_reducible refine Below.alloc ?_ ?_ _); rotate_left; focus (first | (simp; done) | (simp; omega) | omega)) | ((with_reducible refine Below.setCell ?_ ?_ _); rotate_left; focus (first | (simp; done) | (simp; omega) | omega)) | (with_reducible refine Below.drew ?_) | ((with_reducible apply Below.then); rotate_left; (with_reducible assumption))))⟩
                case measure => simp [intOf]; omega
    · go_wp2_with (go_at_call 48; (with_reducible refine (wakes15_c _).mono ?_); rintro e w1 ⟨rfl, hb1⟩; have hz1 := hb1.size; (try simp at hz1))
      go_ret
      exact ⟨rfl, ((hBW.trans (hB.mono hBW.size)).then hb1)⟩
end Go.Proofs.Ytkcjdigbfcnhbaa

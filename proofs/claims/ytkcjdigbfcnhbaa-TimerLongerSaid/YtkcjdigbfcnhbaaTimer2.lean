/- What the functions on timers answer: Tick, Back, Start (packages timer, kioskref12). No condition. -/
import Derived.Test.YtkcjdigbfcnhbaaTimer
namespace Go.Proofs.Ytkcjdigbfcnhbaa
open Go.RowKit
set_option linter.unusedVariables false

set_option maxRecDepth 100000 in
theorem timerTick_t (on : Bool) (l wt tr : Int) (hb : tmMay on l wt tr = true) (w : World) : Calls Try.prog 46 #[.agg #[.bool on, .int .i64 l, .int .i64 wt, .int .i64 tr]] w fun e w' =>
    e = .returned (.tuple #[.agg #[.bool on, .int .i64 (tickL on l), .int .i64 wt, .int .i64 tr], .bool (tickR on l), .int .i64 0]) ∧ Below w.heap.size w w' := by
  have C := hid (timerMay_c on l wt tr true hb)
  have C2 := hid (timerBeat_c on l wt tr (tmMay_bd hb).1)
  clear hb
  go_enter Try.func46, Try.ntmps46
  go_wp2_with (first | (go_at_call 68; (with_reducible refine (C.out _).mono ?_); rintro e w1 ⟨rfl, hb1⟩; have hz1 := hb1.size; (try simp at hz1); have hl1a : w.heap.size < w1.heap.size := (by first | omega | (simp; done) | (simp; omega)); have hc1a := fun o => hb1.cell (p := ⟨w.heap.size, o, none⟩) (by first | omega | (simp; done) | (simp; omega)); have hf1a := fun o => hb1.frozen (p := ⟨w.heap.size, o, none⟩) (by first | omega | (simp; done) | (simp; omega)); have hl1b : w.heap.size + 1 < w1.heap.size := (by first | omega | (simp; done) | (simp; omega)); have hc1b := fun o => hb1.cell (p := ⟨w.heap.size + 1, o, none⟩) (by first | omega | (simp; done) | (simp; omega)); have hf1b := fun o => hb1.frozen (p := ⟨w.heap.size + 1, o, none⟩) (by first | omega | (simp; done) | (simp; omega))) | (go_at_call 69; (with_reducible refine (C2.out _).mono ?_); rintro e w2 ⟨rfl, hb2⟩; have hz2 := hb2.size; (try simp at hz2); have hl2a : w.heap.size < w2.heap.size := (by first | omega | (simp; done) | (simp; omega)); have hc2a := fun o => hb2.cell (p := ⟨w.heap.size, o, none⟩) (by first | omega | (simp; done) | (simp; omega)); have hf2a := fun o => hb2.frozen (p := ⟨w.heap.size, o, none⟩) (by first | omega | (simp; done) | (simp; omega)); have hl2b : w.heap.size + 1 < w2.heap.size := (by first | omega | (simp; done) | (simp; omega)); have hc2b := fun o => hb2.cell (p := ⟨w.heap.size + 1, o, none⟩) (by first | omega | (simp; done) | (simp; omega)); have hf2b := fun o => hb2.frozen (p := ⟨w.heap.size + 1, o, none⟩) (by first | omega | (simp; done) | (simp; omega))))
  refine bodyPost_ret (v := .tuple #[.agg #[.bool on, .int .i64 (tickL on l), .int .i64 wt, .int .i64 tr], .bool (tickR on l), .int .i64 0]) (by simp [results, Try.results46, go_sem, *]) rfl ⟨?_, (by repeat (first | (with_reducible exact Below.refl _ _) | (with_reducible assumption) | ((with_reducible refine Below.alloc ?_ ?_ _); rotate_left; focus (first | (simp; done) | (simp; omega) | omega)) | ((with_reducible refine Below.setCell ?_ ?_ _); rotate_left; focus (first | (simp; done) | (simp; omega) | omega)) | (with_reducible refine Below.drew ?_) | ((with_reducible apply Below.then); rotate_left; (with_reducible assumption))))⟩
  rfl

set_option maxRecDepth 100000 in
theorem timerTick_f (on : Bool) (l wt tr : Int) (hb : tmMay on l wt tr = false) (w : World) : Calls Try.prog 46 #[.agg #[.bool on, .int .i64 l, .int .i64 wt, .int .i64 tr]] w fun e w' =>
    e = .returned (.tuple #[.agg #[.bool false, .int .i64 0, .int .i64 0, .int .i64 0], .bool false, .int .i64 1]) ∧ Below w.heap.size w w' := by
  have C := hid (timerMay_c on l wt tr false hb)
  clear hb
  go_enter Try.func46, Try.ntmps46
  go_wp2_with (go_at_call 68; (with_reducible refine (C.out _).mono ?_); rintro e w1 ⟨rfl, hb1⟩; have hz1 := hb1.size; (try simp at hz1); have hl1a : w.heap.size < w1.heap.size := (by first | omega | (simp; done) | (simp; omega)); have hc1a := fun o => hb1.cell (p := ⟨w.heap.size, o, none⟩) (by first | omega | (simp; done) | (simp; omega)); have hf1a := fun o => hb1.frozen (p := ⟨w.heap.size, o, none⟩) (by first | omega | (simp; done) | (simp; omega)); have hl1b : w.heap.size + 1 < w1.heap.size := (by first | omega | (simp; done) | (simp; omega)); have hc1b := fun o => hb1.cell (p := ⟨w.heap.size + 1, o, none⟩) (by first | omega | (simp; done) | (simp; omega)); have hf1b := fun o => hb1.frozen (p := ⟨w.heap.size + 1, o, none⟩) (by first | omega | (simp; done) | (simp; omega)))
  refine bodyPost_ret (v := .tuple #[.agg #[.bool false, .int .i64 0, .int .i64 0, .int .i64 0], .bool false, .int .i64 1]) (by simp [results, Try.results46, go_sem, *]) rfl ⟨?_, (by repeat (first | (with_reducible exact Below.refl _ _) | (with_reducible assumption) | ((with_reducible refine Below.alloc ?_ ?_ _); rotate_left; focus (first | (simp; done) | (simp; omega) | omega)) | ((with_reducible refine Below.setCell ?_ ?_ _); rotate_left; focus (first | (simp; done) | (simp; omega) | omega)) | (with_reducible refine Below.drew ?_) | ((with_reducible apply Below.then); rotate_left; (with_reducible assumption))))⟩
  rfl

/-- the next wait -/
def backW (wt : Int) : Int := min (max (2 * wt) 1) 48
theorem backW_bd (wt : Int) : 1 ≤ backW wt ∧ backW wt ≤ 48 := by unfold backW; omega

set_option maxRecDepth 100000 in
theorem timerBack_f (on : Bool) (l wt tr : Int) (b : Bool) (hm : tmMay on l wt tr = b) (hb : (b && on) = false) (w : World) : Calls Try.prog 47 #[.agg #[.bool on, .int .i64 l, .int .i64 wt, .int .i64 tr]] w fun e w' =>
    e = .returned (.tuple #[.agg #[.bool false, .int .i64 0, .int .i64 0, .int .i64 0], .int .i64 1]) ∧ Below w.heap.size w w' := by
  have C := hid (timerMay_c on l wt tr b hm)
  clear hm
  cases b <;> cases on <;> simp only [Bool.and_true, Bool.and_false, Bool.true_eq_false] at hb
  all_goals
    clear hb
    go_enter Try.func47, Try.ntmps47
    go_wp2_with (go_at_call 68; (with_reducible refine (C.out _).mono ?_); rintro e w1 ⟨rfl, hb1⟩; have hz1 := hb1.size; (try simp at hz1); have hl1a : w.heap.size < w1.heap.size := (by first | omega | (simp; done) | (simp; omega)); have hc1a := fun o => hb1.cell (p := ⟨w.heap.size, o, none⟩) (by first | omega | (simp; done) | (simp; omega)); have hf1a := fun o => hb1.frozen (p := ⟨w.heap.size, o, none⟩) (by first | omega | (simp; done) | (simp; omega)); have hl1b : w.heap.size + 1 < w1.heap.size := (by first | omega | (simp; done) | (simp; omega)); have hc1b := fun o => hb1.cell (p := ⟨w.heap.size + 1, o, none⟩) (by first | omega | (simp; done) | (simp; omega)); have hf1b := fun o => hb1.frozen (p := ⟨w.heap.size + 1, o, none⟩) (by first | omega | (simp; done) | (simp; omega)))
    refine bodyPost_ret (v := .tuple #[.agg #[.bool false, .int .i64 0, .int .i64 0, .int .i64 0], .int .i64 1]) (by simp [results, Try.results47, go_sem, *]) rfl ⟨?_, (by repeat (first | (with_reducible exact Below.refl _ _) | (with_reducible assumption) | ((with_reducible refine Below.alloc ?_ ?_ _); rotate_left; focus (first | (simp; done) | (simp; omega) | omega)) | ((with_reducible refine Below.setCell ?_ ?_ _); rotate_left; focus (first | (simp; done) | (simp; omega) | omega)) | (with_reducible refine Below.drew ?_) | ((with_reducible apply Below.then); rotate_left; (with_reducible assumption))))⟩
    rfl

set_option maxRecDepth 100000 in
theorem timerBack_s (l wt : Int) (hm : tmMay true l wt 8 = true) (w : World) : Calls Try.prog 47 #[.agg #[.bool true, .int .i64 l, .int .i64 wt, .int .i64 8]] w fun e w' =>
    e = .returned (.tuple #[.agg #[.bool false, .int .i64 0, .int .i64 0, .int .i64 0], .int .i64 6]) ∧ Below w.heap.size w w' := by
  have C := hid (timerMay_c true l wt 8 true hm)
  clear hm
  go_enter Try.func47, Try.ntmps47
  go_wp2_with (go_at_call 68; (with_reducible refine (C.out _).mono ?_); rintro e w1 ⟨rfl, hb1⟩; have hz1 := hb1.size; (try simp at hz1); have hl1a : w.heap.size < w1.heap.size := (by first | omega | (simp; done) | (simp; omega)); have hc1a := fun o => hb1.cell (p := ⟨w.heap.size, o, none⟩) (by first | omega | (simp; done) | (simp; omega)); have hf1a := fun o => hb1.frozen (p := ⟨w.heap.size, o, none⟩) (by first | omega | (simp; done) | (simp; omega)); have hl1b : w.heap.size + 1 < w1.heap.size := (by first | omega | (simp; done) | (simp; omega)); have hc1b := fun o => hb1.cell (p := ⟨w.heap.size + 1, o, none⟩) (by first | omega | (simp; done) | (simp; omega)); have hf1b := fun o => hb1.frozen (p := ⟨w.heap.size + 1, o, none⟩) (by first | omega | (simp; done) | (simp; omega)))
  refine bodyPost_ret (v := .tuple #[.agg #[.bool false, .int .i64 0, .int .i64 0, .int .i64 0], .int .i64 6]) (by simp [results, Try.results47, go_sem, *]) rfl ⟨?_, (by repeat (first | (with_reducible exact Below.refl _ _) | (with_reducible assumption) | ((with_reducible refine Below.alloc ?_ ?_ _); rotate_left; focus (first | (simp; done) | (simp; omega) | omega)) | ((with_reducible refine Below.setCell ?_ ?_ _); rotate_left; focus (first | (simp; done) | (simp; omega) | omega)) | (with_reducible refine Below.drew ?_) | ((with_reducible apply Below.then); rotate_left; (with_reducible assumption))))⟩
  rfl

set_option maxRecDepth 100000 in
set_option maxHeartbeats 1000000 in
theorem timerBack_t (l wt tr : Int) (hm : tmMay true l wt tr = true) (htr : tr ≠ 8) (w : World) : Calls Try.prog 47 #[.agg #[.bool true, .int .i64 l, .int .i64 wt, .int .i64 tr]] w fun e w' =>
    e = .returned (.tuple #[.agg #[.bool true, .int .i64 (backW wt), .int .i64 (backW wt), .int .i64 (tr + 1)], .int .i64 0]) ∧ Below w.heap.size w w' := by
  have C := hid (timerMay_c true l wt tr true hm)
  have bd := tmMay_bd hm
  have b2 := bd.2.1
  have b3 := bd.2.2.1
  have h8 : (tr == 8) = false := by simpa using htr
  clear hm bd htr
  rcases (by omega : wt = 0 ∨ (1 ≤ wt ∧ wt ≤ 24) ∨ 25 ≤ wt) with rfl | h | h
  · have k : Hid (backW 0 = 1) := rfl
    go_enter Try.func47, Try.ntmps47
    go_wp2_with (go_at_call 68; (with_reducible refine (C.out _).mono ?_); rintro e w1 ⟨rfl, hb1⟩; have hz1 := hb1.size; (try simp at hz1); have hl1a : w.heap.size < w1.heap.size := (by first | omega | (simp; done) | (simp; omega)); have hc1a := fun o => hb1.cell (p := ⟨w.heap.size, o, none⟩) (by first | omega | (simp; done) | (simp; omega)); have hf1a := fun o => hb1.frozen (p := ⟨w.heap.size, o, none⟩) (by first | omega | (simp; done) | (simp; omega)); have hl1b : w.heap.size + 1 < w1.heap.size := (by first | omega | (simp; done) | (simp; omega)); have hc1b := fun o => hb1.cell (p := ⟨w.heap.size + 1, o, none⟩) (by first | omega | (simp; done) | (simp; omega)); have hf1b := fun o => hb1.frozen (p := ⟨w.heap.size + 1, o, none⟩) (by first | omega | (simp; done) | (simp; omega)))
    refine bodyPost_ret (v := .tuple #[.agg #[.bool true, .int .i64 1, .int .i64 1, .int .i64 (tr + 1)], .int .i64 0]) (by simp [results, Try.results47, go_sem, *]) rfl ⟨?_, (by repeat (first | (with_reducible exact Below.refl _ _) | (with_reducible assumption) | ((with_reducible refine Below.alloc ?_ ?_ _); rotate_left; focus (first | (simp; done) | (simp; omega) | omega)) | ((with_reducible refine Below.setCell ?_ ?_ _); rotate_left; focus (first | (simp; done) | (simp; omega) | omega)) | (with_reducible refine Below.drew ?_) | ((with_reducible apply Below.then); rotate_left; (with_reducible assumption))))⟩
    rw [k.out]
  · have k : Hid (backW wt = 2 * wt) := by unfold Hid backW; omega
    go_enter Try.func47, Try.ntmps47
    go_wp2_with (go_at_call 68; (with_reducible refine (C.out _).mono ?_); rintro e w1 ⟨rfl, hb1⟩; have hz1 := hb1.size; (try simp at hz1); have hl1a : w.heap.size < w1.heap.size := (by first | omega | (simp; done) | (simp; omega)); have hc1a := fun o => hb1.cell (p := ⟨w.heap.size, o, none⟩) (by first | omega | (simp; done) | (simp; omega)); have hf1a := fun o => hb1.frozen (p := ⟨w.heap.size, o, none⟩) (by first | omega | (simp; done) | (simp; omega)); have hl1b : w.heap.size + 1 < w1.heap.size := (by first | omega | (simp; done) | (simp; omega)); have hc1b := fun o => hb1.cell (p := ⟨w.heap.size + 1, o, none⟩) (by first | omega | (simp; done) | (simp; omega)); have hf1b := fun o => hb1.frozen (p := ⟨w.heap.size + 1, o, none⟩) (by first | omega | (simp; done) | (simp; omega)))
    refine bodyPost_ret (v := .tuple #[.agg #[.bool true, .int .i64 (2 * wt), .int .i64 (2 * wt), .int .i64 (tr + 1)], .int .i64 0]) (by simp [results, Try.results47, go_sem, *]) rfl ⟨?_, (by repeat (first | (with_reducible exact Below.refl _ _) | (with_reducible assumption) | ((with_reducible refine Below.alloc ?_ ?_ _); rotate_left; focus (first | (simp; done) | (simp; omega) | omega)) | ((with_reducible refine Below.setCell ?_ ?_ _); rotate_left; focus (first | (simp; done) | (simp; omega) | omega)) | (with_reducible refine Below.drew ?_) | ((with_reducible apply Below.then); rotate_left; (with_reducible assumption))))⟩
    rw [k.out]
  · have k : Hid (backW wt = 48) := by unfold Hid backW; omega
    go_enter Try.func47, Try.ntmps47
    go_wp2_with (go_at_call 68; (with_reducible refine (C.out _).mono ?_); rintro e w1 ⟨rfl, hb1⟩; have hz1 := hb1.size; (try simp at hz1); have hl1a : w.heap.size < w1.heap.size := (by first | omega | (simp; done) | (simp; omega)); have hc1a := fun o => hb1.cell (p := ⟨w.heap.size, o, none⟩) (by first | omega | (simp; done) | (simp; omega)); have hf1a := fun o => hb1.frozen (p := ⟨w.heap.size, o, none⟩) (by first | omega | (simp; done) | (simp; omega)); have hl1b : w.heap.size + 1 < w1.heap.size := (by first | omega | (simp; done) | (simp; omega)); have hc1b := fun o => hb1.cell (p := ⟨w.heap.size + 1, o, none⟩) (by first | omega | (simp; done) | (simp; omega)); have hf1b := fun o => hb1.frozen (p := ⟨w.heap.size + 1, o, none⟩) (by first | omega | (simp; done) | (simp; omega)))
    refine bodyPost_ret (v := .tuple #[.agg #[.bool true, .int .i64 48, .int .i64 48, .int .i64 (tr + 1)], .int .i64 0]) (by simp [results, Try.results47, go_sem, *]) rfl ⟨?_, (by repeat (first | (with_reducible exact Below.refl _ _) | (with_reducible assumption) | ((with_reducible refine Below.alloc ?_ ?_ _); rotate_left; focus (first | (simp; done) | (simp; omega) | omega)) | ((with_reducible refine Below.setCell ?_ ?_ _); rotate_left; focus (first | (simp; done) | (simp; omega) | omega)) | (with_reducible refine Below.drew ?_) | ((with_reducible apply Below.then); rotate_left; (with_reducible assumption))))⟩
    rw [k.out]

set_option maxRecDepth 100000 in
theorem refBack_s (on : Bool) (l wt : Int) (w : World) : Calls Try.prog 52 #[.agg #[.bool on, .int .i64 l, .int .i64 wt, .int .i64 8]] w fun e w' =>
    e = .returned (.tuple #[.agg #[.bool on, .int .i64 l, .int .i64 wt, .int .i64 8], .int .i64 6]) ∧ Below w.heap.size w w' := by
  go_enter Try.func52, Try.ntmps52
  go_wp2
  refine bodyPost_ret (v := .tuple #[.agg #[.bool on, .int .i64 l, .int .i64 wt, .int .i64 8], .int .i64 6]) (by simp [results, Try.results52, go_sem, *]) rfl ⟨?_, (by repeat (first | (with_reducible exact Below.refl _ _) | (with_reducible assumption) | ((with_reducible refine Below.alloc ?_ ?_ _); rotate_left; focus (first | (simp; done) | (simp; omega) | omega)) | ((with_reducible refine Below.setCell ?_ ?_ _); rotate_left; focus (first | (simp; done) | (simp; omega) | omega)) | (with_reducible refine Below.drew ?_) | ((with_reducible apply Below.then); rotate_left; (with_reducible assumption))))⟩
  rfl

set_option maxRecDepth 100000 in
set_option maxHeartbeats 1000000 in
theorem refBack_t (on : Bool) (l wt tr : Int) (b2 : 0 ≤ wt ∧ wt ≤ 48) (b3 : 0 ≤ tr ∧ tr ≤ 8) (htr : tr ≠ 8) (w : World) : Calls Try.prog 52 #[.agg #[.bool on, .int .i64 l, .int .i64 wt, .int .i64 tr]] w fun e w' =>
    e = .returned (.tuple #[.agg #[.bool on, .int .i64 (backW wt), .int .i64 (backW wt), .int .i64 (tr + 1)], .int .i64 0]) ∧ Below w.heap.size w w' := by
  have h8 : (tr == 8) = false := by simpa using htr
  clear htr
  rcases (by omega : wt = 0 ∨ (1 ≤ wt ∧ wt ≤ 23) ∨ 24 ≤ wt) with rfl | h | h
  · have k : Hid (backW 0 = 1) := rfl
    go_enter Try.func52, Try.ntmps52
    go_wp2
    refine bodyPost_ret (v := .tuple #[.agg #[.bool on, .int .i64 1, .int .i64 1, .int .i64 (tr + 1)], .int .i64 0]) (by simp [results, Try.results52, go_sem, *]) rfl ⟨?_, (by repeat (first | (with_reducible exact Below.refl _ _) | (with_reducible assumption) | ((with_reducible refine Below.alloc ?_ ?_ _); rotate_left; focus (first | (simp; done) | (simp; omega) | omega)) | ((with_reducible refine Below.setCell ?_ ?_ _); rotate_left; focus (first | (simp; done) | (simp; omega) | omega)) | (with_reducible refine Below.drew ?_) | ((with_reducible apply Below.then); rotate_left; (with_reducible assumption))))⟩
    rw [k.out]
  · have k : Hid (backW wt = 2 * wt) := by unfold Hid backW; omega
    go_enter Try.func52, Try.ntmps52
    go_wp2
    refine bodyPost_ret (v := .tuple #[.agg #[.bool on, .int .i64 (2 * wt), .int .i64 (2 * wt), .int .i64 (tr + 1)], .int .i64 0]) (by simp [results, Try.results52, go_sem, *]) rfl ⟨?_, (by repeat (first | (with_reducible exact Below.refl _ _) | (with_reducible assumption) | ((with_reducible refine Below.alloc ?_ ?_ _); rotate_left; focus (first | (simp; done) | (simp; omega) | omega)) | ((with_reducible refine Below.setCell ?_ ?_ _); rotate_left; focus (first | (simp; done) | (simp; omega) | omega)) | (with_reducible refine Below.drew ?_) | ((with_reducible apply Below.then); rotate_left; (with_reducible assumption))))⟩
    rw [k.out]
  · have k : Hid (backW wt = 48) := by unfold Hid backW; omega
    go_enter Try.func52, Try.ntmps52
    go_wp2
    refine bodyPost_ret (v := .tuple #[.agg #[.bool on, .int .i64 48, .int .i64 48, .int .i64 (tr + 1)], .int .i64 0]) (by simp [results, Try.results52, go_sem, *]) rfl ⟨?_, (by repeat (first | (with_reducible exact Below.refl _ _) | (with_reducible assumption) | ((with_reducible refine Below.alloc ?_ ?_ _); rotate_left; focus (first | (simp; done) | (simp; omega) | omega)) | ((with_reducible refine Below.setCell ?_ ?_ _); rotate_left; focus (first | (simp; done) | (simp; omega) | omega)) | (with_reducible refine Below.drew ?_) | ((with_reducible apply Below.then); rotate_left; (with_reducible assumption))))⟩
    rw [k.out]

set_option maxRecDepth 100000 in
theorem timerStart_t (n : Int) (hn : 1 ≤ n ∧ n ≤ 48) (w : World) : Calls Try.prog 44 #[.int .i64 n] w fun e w' =>
    e = .returned (.tuple #[.agg #[.bool true, .int .i64 n, .int .i64 n, .int .i64 0], .int .i64 0]) ∧ Below w.heap.size w w' := by
  go_enter Try.func44, Try.ntmps44
  go_wp2_with (go_at_call 67; (with_reducible refine (timerNew_c _ _).mono ?_); rintro e w1 ⟨rfl, hb1⟩; have hz1 := hb1.size; (try simp at hz1); have hl1a : w.heap.size < w1.heap.size := (by first | omega | (simp; done) | (simp; omega)); have hc1a := fun o => hb1.cell (p := ⟨w.heap.size, o, none⟩) (by first | omega | (simp; done) | (simp; omega)); have hf1a := fun o => hb1.frozen (p := ⟨w.heap.size, o, none⟩) (by first | omega | (simp; done) | (simp; omega)))
  refine bodyPost_ret (v := .tuple #[.agg #[.bool true, .int .i64 n, .int .i64 n, .int .i64 0], .int .i64 0]) (by simp [results, Try.results44, go_sem, *]) rfl ⟨?_, (by repeat (first | (with_reducible exact Below.refl _ _) | (with_reducible assumption) | ((with_reducible refine Below.alloc ?_ ?_ _); rotate_left; focus (first | (simp; done) | (simp; omega) | omega)) | ((with_reducible refine Below.setCell ?_ ?_ _); rotate_left; focus (first | (simp; done) | (simp; omega) | omega)) | (with_reducible refine Below.drew ?_) | ((with_reducible apply Below.then); rotate_left; (with_reducible assumption))))⟩
  rfl
set_option maxRecDepth 100000 in
theorem timerStart_f (n : Int) (hn : n < 1 ∨ 48 < n) (w : World) : Calls Try.prog 44 #[.int .i64 n] w fun e w' =>
    e = .returned (.tuple #[.agg #[.bool false, .int .i64 0, .int .i64 0, .int .i64 0], .int .i64 1]) ∧ Below w.heap.size w w' := by
  rcases hn with h | h
  · go_enter Try.func44, Try.ntmps44
    go_wp2
    refine bodyPost_ret (v := .tuple #[.agg #[.bool false, .int .i64 0, .int .i64 0, .int .i64 0], .int .i64 1]) (by simp [results, Try.results44, go_sem, *]) rfl ⟨?_, (by repeat (first | (with_reducible exact Below.refl _ _) | (with_reducible assumption) | ((with_reducible refine Below.alloc ?_ ?_ _); rotate_left; focus (first | (simp; done) | (simp; omega) | omega)) | ((with_reducible refine Below.setCell ?_ ?_ _); rotate_left; focus (first | (simp; done) | (simp; omega) | omega)) | (with_reducible refine Below.drew ?_) | ((with_reducible apply Below.then); rotate_left; (with_reducible assumption))))⟩
    rfl
  · have h1 : 1 ≤ n := by omega
    go_enter Try.func44, Try.ntmps44
    go_wp2
    refine bodyPost_ret (v := .tuple #[.agg #[.bool false, .int .i64 0, .int .i64 0, .int .i64 0], .int .i64 1]) (by simp [results, Try.results44, go_sem, *]) rfl ⟨?_, (by repeat (first | (with_reducible exact Below.refl _ _) | (with_reducible assumption) | ((with_reducible refine Below.alloc ?_ ?_ _); rotate_left; focus (first | (simp; done) | (simp; omega) | omega)) | ((with_reducible refine Below.setCell ?_ ?_ _); rotate_left; focus (first | (simp; done) | (simp; omega) | omega)) | (with_reducible refine Below.drew ?_) | ((with_reducible apply Below.then); rotate_left; (with_reducible assumption))))⟩
    rfl

theorem num15_c (n : Int) (w : World) : Calls Try.prog 45 #[.int .i64 n] w fun e w' => e = .returned (.int .i64 n) ∧ w = w' := by
  go_enter Try.func45, Try.ntmps45
  go_wp2
  go_ret
  exact ⟨rfl, rfl⟩

theorem tmMay_mk {on : Bool} {l wt tr : Int} (h1 : 0 ≤ l ∧ l ≤ 48) (h2 : 0 ≤ wt ∧ wt ≤ 48) (h3 : 0 ≤ tr ∧ tr ≤ 8) (h4 : on = false → l = 0) : tmMay on l wt tr = true := by
  unfold tmMay
  rw [within_mk h1, within_mk h2, within_mk h3]
  cases on
  · rw [h4 rfl]; rfl
  · rfl

set_option maxRecDepth 100000 in
theorem wakes15_c (w : World) : Calls Try.prog 48 #[] w fun e w' => e = .returned (.bool true) ∧ Below w.heap.size w w' := by
  have c1 : ∀ w, Calls Try.prog 46 #[.agg #[.bool true, .int .i64 2, .int .i64 2, .int .i64 0]] w fun e w' =>
    e = .returned (.tuple #[.agg #[.bool true, .int .i64 1, .int .i64 2, .int .i64 0], .bool false, .int .i64 0]) ∧ Below w.heap.size w w' := timerTick_t true 2 2 0 (tmMay_mk (by decide) (by decide) (by decide) (by decide))
  have c2 : ∀ w, Calls Try.prog 46 #[.agg #[.bool true, .int .i64 1, .int .i64 2, .int .i64 0]] w fun e w' =>
    e = .returned (.tuple #[.agg #[.bool true, .int .i64 0, .int .i64 2, .int .i64 0], .bool true, .int .i64 0]) ∧ Below w.heap.size w w' := timerTick_t true 1 2 0 (tmMay_mk (by decide) (by decide) (by decide) (by decide))
  have c0 := timerStart_t 2 (by decide)
  have C1 := hid c1
  have C2 := hid c2
  have C0 := hid c0
  clear c0 c1 c2
  go_enter Try.func48, Try.ntmps48
  go_wp2_with (first | (go_at_call 44; (with_reducible refine (C0.out _).mono ?_); rintro e w1 ⟨rfl, hb1⟩; have hz1 := hb1.size; (try simp at hz1)) | (go_at_call 46; (with_reducible refine (C1.out _).mono ?_); rintro e w2 ⟨rfl, hb2⟩; have hz2 := hb2.size; (try simp at hz2); have hl2a : w1.heap.size < w2.heap.size := (by first | omega | (simp; done) | (simp; omega)); have hc2a := fun o => hb2.cell (p := ⟨w1.heap.size, o, none⟩) (by first | omega | (simp; done) | (simp; omega)); have hf2a := fun o => hb2.frozen (p := ⟨w1.heap.size, o, none⟩) (by first | omega | (simp; done) | (simp; omega))) | (go_at_call 46; (with_reducible refine (C2.out _).mono ?_); rintro e w3 ⟨rfl, hb3⟩; have hz3 := hb3.size; (try simp at hz3); have hl3a : w1.heap.size < w3.heap.size := (by first | omega | (simp; done) | (simp; omega)); have hc3a := fun o => hb3.cell (p := ⟨w1.heap.size, o, none⟩) (by first | omega | (simp; done) | (simp; omega)); have hf3a := fun o => hb3.frozen (p := ⟨w1.heap.size, o, none⟩) (by first | omega | (simp; done) | (simp; omega))) | (go_at_call 45; (with_reducible refine (num15_c _ _).mono ?_); rintro e w' ⟨rfl, rfl⟩))
  go_ret
  exact ⟨rfl, (by repeat (first | (with_reducible exact Below.refl _ _) | (with_reducible assumption) | ((with_reducible refine Below.alloc ?_ ?_ _); rotate_left; focus (first | (simp; done) | (simp; omega) | omega)) | ((with_reducible refine Below.setCell ?_ ?_ _); rotate_left; focus (first | (simp; done) | (simp; omega) | omega)) | (with_reducible refine Below.drew ?_) | ((with_reducible apply Below.then); rotate_left; (with_reducible assumption))))⟩
end Go.Proofs.Ytkcjdigbfcnhbaa

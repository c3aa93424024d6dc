/- What the functions on timers answer (packages timer, kioskref12). Conditions: the numbers of a timer that may be, where they are written. -/
import Derived.Test.YtkcjdigbfcnhbaaNum
namespace Go.Proofs.Ytkcjdigbfcnhbaa
open Go.RowKit
set_option linter.unusedVariables false

/-- may it be a timer? -/
def tmMay (on : Bool) (l wt tr : Int) : Bool := within l 48 && within wt 48 && within tr 8 && (on || l == 0)
theorem tmMay_bd {on : Bool} {l wt tr : Int} (h : tmMay on l wt tr = true) : (0 ≤ l ∧ l ≤ 48) ∧ (0 ≤ wt ∧ wt ≤ 48) ∧ (0 ≤ tr ∧ tr ≤ 8) ∧ (on = false → l = 0) := by
  unfold tmMay at h
  simp only [Bool.and_eq_true, Bool.or_eq_true, beq_iff_eq] at h
  refine ⟨within_t h.1.1.1, within_t h.1.1.2, within_t h.1.2, fun ho => ?_⟩
  rcases h.2 with h2 | h2
  · rw [ho] at h2; cases h2
  · exact h2

theorem tmMay_key (on : Bool) (l wt tr : Int) (b : Bool) (hb : tmMay on l wt tr = b) : ∀ b1 b2 b3 b4 b5, within l 48 = b1 → within wt 48 = b2 → within tr 8 = b3 → on = b4 → (l == 0) = b5 → Hid (b = (b1 && b2 && b3 && (b4 || b5))) := by
  intro b1 b2 b3 b4 b5 h1 h2 h3 h4 h5
  unfold Hid; rw [← hb, ← h1, ← h2, ← h3, ← h4, ← h5]; rfl

set_option maxRecDepth 100000 in
theorem timerMay_c (on : Bool) (l wt tr : Int) (b : Bool) (hb : tmMay on l wt tr = b) (w : World) : Calls Try.prog 68 #[.agg #[.bool on, .int .i64 l, .int .i64 wt, .int .i64 tr]] w fun e w' => e = .returned (.bool b) ∧ Below w.heap.size w w' := by
  have K := tmMay_key on l wt tr b hb
  clear hb
  cases on <;> cases h1 : within l 48 <;> cases h2 : within wt 48 <;> cases h3 : within tr 8 <;> cases h5 : (l == 0)
  all_goals
    have k := K _ _ _ _ _ h1 h2 h3 rfl h5
    clear K
    go_enter Try.func68, Try.ntmps68
    go_wp2_with (go_at_call 71; (with_reducible refine (timerWithin_c _ _ _).mono ?_); rintro e w' ⟨rfl, rfl⟩)
    go_ret
    rw [k.out]
    exact ⟨rfl, (by repeat (first | (with_reducible exact Below.refl _ _) | (with_reducible assumption) | ((with_reducible refine Below.alloc ?_ ?_ _); rotate_left; focus (first | (simp; done) | (simp; omega) | omega)) | ((with_reducible refine Below.setCell ?_ ?_ _); rotate_left; focus (first | (simp; done) | (simp; omega) | omega)) | (with_reducible refine Below.drew ?_) | ((with_reducible apply Below.then); rotate_left; (with_reducible assumption))))⟩

set_option maxRecDepth 100000 in
theorem refTimer_c (on : Bool) (l wt tr : Int) (b : Bool) (hb : tmMay on l wt tr = b) (w : World) : Calls Try.prog 49 #[.agg #[.bool on, .int .i64 l, .int .i64 wt, .int .i64 tr]] w fun e w' => e = .returned (.bool b) ∧ Below w.heap.size w w' := by
  have K := tmMay_key on l wt tr b hb
  clear hb
  cases on <;> cases h1 : within l 48 <;> cases h2 : within wt 48 <;> cases h3 : within tr 8 <;> cases h5 : (l == 0)
  all_goals
    have k := K _ _ _ _ _ h1 h2 h3 rfl h5
    clear K
    go_enter Try.func49, Try.ntmps49
    go_wp2_with (go_at_call 60; (with_reducible refine (refNum_c _ _ _).mono ?_); rintro e w' ⟨rfl, rfl⟩)
    go_ret
    rw [k.out]
    exact ⟨rfl, (by repeat (first | (with_reducible exact Below.refl _ _) | (with_reducible assumption) | ((with_reducible refine Below.alloc ?_ ?_ _); rotate_left; focus (first | (simp; done) | (simp; omega) | omega)) | ((with_reducible refine Below.setCell ?_ ?_ _); rotate_left; focus (first | (simp; done) | (simp; omega) | omega)) | (with_reducible refine Below.drew ?_) | ((with_reducible apply Below.then); rotate_left; (with_reducible assumption))))⟩

def tmErr (b : Bool) : Int := if b then 0 else 1
theorem timerCheck_c (on : Bool) (l wt tr : Int) (b : Bool) (hb : tmMay on l wt tr = b) (w : World) : Calls Try.prog 50 #[.agg #[.bool on, .int .i64 l, .int .i64 wt, .int .i64 tr]] w fun e w' => e = .returned (.int .i64 (tmErr b)) ∧ Below w.heap.size w w' := by
  have C := hid (timerMay_c on l wt tr b hb)
  clear hb
  cases b
  all_goals
    go_enter Try.func50, Try.ntmps50
    go_wp2_with (go_at_call 68; (with_reducible refine (C.out _).mono ?_); rintro e w1 ⟨rfl, hb1⟩)
    go_ret
    exact ⟨rfl, (by repeat (first | (with_reducible exact Below.refl _ _) | (with_reducible assumption) | ((with_reducible refine Below.alloc ?_ ?_ _); rotate_left; focus (first | (simp; done) | (simp; omega) | omega)) | ((with_reducible refine Below.setCell ?_ ?_ _); rotate_left; focus (first | (simp; done) | (simp; omega) | omega)) | (with_reducible refine Below.drew ?_) | ((with_reducible apply Below.then); rotate_left; (with_reducible assumption))))⟩

theorem timerNew_c (n : Int) (w : World) : Calls Try.prog 67 #[.int .i64 n] w fun e w' => e = .returned (.agg #[.bool true, .int .i64 n, .int .i64 n, .int .i64 0]) ∧ Below w.heap.size w w' := by
  go_enter Try.func67, Try.ntmps67
  go_wp2
  refine bodyPost_ret (v := .agg #[.bool true, .int .i64 n, .int .i64 n, .int .i64 0]) (by simp [results, Try.results67, go_sem, *]) rfl ⟨?_, (by repeat (first | (with_reducible exact Below.refl _ _) | (with_reducible assumption) | ((with_reducible refine Below.alloc ?_ ?_ _); rotate_left; focus (first | (simp; done) | (simp; omega) | omega)) | ((with_reducible refine Below.setCell ?_ ?_ _); rotate_left; focus (first | (simp; done) | (simp; omega) | omega)) | (with_reducible refine Below.drew ?_) | ((with_reducible apply Below.then); rotate_left; (with_reducible assumption))))⟩
  rfl
theorem refStart_c (n : Int) (w : World) : Calls Try.prog 51 #[.int .i64 n] w fun e w' => e = .returned (.agg #[.bool true, .int .i64 n, .int .i64 n, .int .i64 0]) ∧ Below w.heap.size w w' := by
  go_enter Try.func51, Try.ntmps51
  go_wp2
  refine bodyPost_ret (v := .agg #[.bool true, .int .i64 n, .int .i64 n, .int .i64 0]) (by simp [results, Try.results51, go_sem, *]) rfl ⟨?_, (by repeat (first | (with_reducible exact Below.refl _ _) | (with_reducible assumption) | ((with_reducible refine Below.alloc ?_ ?_ _); rotate_left; focus (first | (simp; done) | (simp; omega) | omega)) | ((with_reducible refine Below.setCell ?_ ?_ _); rotate_left; focus (first | (simp; done) | (simp; omega) | omega)) | (with_reducible refine Below.drew ?_) | ((with_reducible apply Below.then); rotate_left; (with_reducible assumption))))⟩
  rfl

/-- a tick of a timer that is on -/
def beatL (l : Int) : Int := max (l - 1) 0
theorem beatL_bd {l : Int} (h : 0 ≤ l ∧ l ≤ 48) : 0 ≤ beatL l ∧ beatL l ≤ 48 := by unfold beatL; omega
def tickL (on : Bool) (l : Int) : Int := if on then beatL l else l
def tickR (on : Bool) (l : Int) : Bool := on && (beatL l == 0)

set_option maxRecDepth 100000 in
theorem timerBeat_c (on : Bool) (l wt tr : Int) (hl : 0 ≤ l ∧ l ≤ 48) (w : World) : Calls Try.prog 69 #[.agg #[.bool on, .int .i64 l, .int .i64 wt, .int .i64 tr]] w fun e w' =>
    e = .returned (.tuple #[.agg #[.bool on, .int .i64 (tickL on l), .int .i64 wt, .int .i64 tr], .bool (tickR on l)]) ∧ Below w.heap.size w w' := by
  cases on
  · have k1 : Hid (tickL false l = l) := rfl
    have k2 : Hid (tickR false l = false) := rfl
    go_enter Try.func69, Try.ntmps69
    go_wp2
    refine wp_scope_once 0 rfl ?_
    go_wp2
    go_step3
    refine ⟨rfl, ?_⟩
    go_wp2
    simp only [Exit.noGoto]
    refine bodyPost_ret (v := .tuple #[.agg #[.bool false, .int .i64 l, .int .i64 wt, .int .i64 tr], .bool false]) (by simp [results, Try.results69, go_sem, *]) rfl ⟨?_, (by repeat (first | (with_reducible exact Below.refl _ _) | (with_reducible assumption) | ((with_reducible refine Below.alloc ?_ ?_ _); rotate_left; focus (first | (simp; done) | (simp; omega) | omega)) | ((with_reducible refine Below.setCell ?_ ?_ _); rotate_left; focus (first | (simp; done) | (simp; omega) | omega)) | (with_reducible refine Below.drew ?_) | ((with_reducible apply Below.then); rotate_left; (with_reducible assumption))))⟩
    rw [k1.out, k2.out]
  · by_cases h1 : l ≤ 1
    · have k1 : Hid (tickL true l = 0) := by unfold Hid tickL beatL; simp; omega
      have k2 : Hid (tickR true l = true) := by unfold Hid tickR beatL; simp; omega
      rcases (by omega : l = 0 ∨ l = 1) with rfl | rfl
      all_goals
        go_enter Try.func69, Try.ntmps69
        go_wp2
        refine wp_scope_once 0 rfl ?_
        go_wp2
        simp only [Exit.jump]
        refine bodyPost_ret (v := .tuple #[.agg #[.bool true, .int .i64 0, .int .i64 wt, .int .i64 tr], .bool true]) (by simp [results, Try.results69, go_sem, *]) rfl ⟨?_, (by repeat (first | (with_reducible exact Below.refl _ _) | (with_reducible assumption) | ((with_reducible refine Below.alloc ?_ ?_ _); rotate_left; focus (first | (simp; done) | (simp; omega) | omega)) | ((with_reducible refine Below.setCell ?_ ?_ _); rotate_left; focus (first | (simp; done) | (simp; omega) | omega)) | (with_reducible refine Below.drew ?_) | ((with_reducible apply Below.then); rotate_left; (with_reducible assumption))))⟩
        rw [k1.out, k2.out]
    · have k1 : Hid (tickL true l = l - 1) := by unfold Hid tickL beatL; simp; omega
      have k2 : Hid (tickR true l = false) := by unfold Hid tickR beatL; simp; omega
      have h2 : ¬ l - 1 < 0 := by omega
      have h3 : (l - 1 == 0) = false := by simp; omega
      go_enter Try.func69, Try.ntmps69
      go_wp2
      refine wp_scope_once 0 rfl ?_
      go_wp2
      go_step3
      go_wp2
      simp only [Exit.jump]
      refine bodyPost_ret (v := .tuple #[.agg #[.bool true, .int .i64 (l - 1), .int .i64 wt, .int .i64 tr], .bool false]) (by simp [results, Try.results69, go_sem, *]) rfl ⟨?_, (by repeat (first | (with_reducible exact Below.refl _ _) | (with_reducible assumption) | ((with_reducible refine Below.alloc ?_ ?_ _); rotate_left; focus (first | (simp; done) | (simp; omega) | omega)) | ((with_reducible refine Below.setCell ?_ ?_ _); rotate_left; focus (first | (simp; done) | (simp; omega) | omega)) | (with_reducible refine Below.drew ?_) | ((with_reducible apply Below.then); rotate_left; (with_reducible assumption))))⟩
      rw [k1.out, k2.out]

theorem Calls.tm {P : Program} {f : FuncId} {args : Array Value} {w : World} {R : Ending → World → Prop} {v v' : Value} (hv : v = v') (h : Calls P f args w fun e w' => e = .returned v ∧ Below w.heap.size w w') :
    Calls P f args w fun e w' => e = .returned v' ∧ Below w.heap.size w w' := hv ▸ h

set_option maxRecDepth 100000 in
theorem refTick_c (on : Bool) (l wt tr : Int) (hl : 0 ≤ l ∧ l ≤ 48) (w : World) : Calls Try.prog 53 #[.agg #[.bool on, .int .i64 l, .int .i64 wt, .int .i64 tr]] w fun e w' =>
    e = .returned (.tuple #[.agg #[.bool on, .int .i64 (tickL on l), .int .i64 wt, .int .i64 tr], .bool (tickR on l)]) ∧ Below w.heap.size w w' := by
  cases on
  · have k1 : Hid (tickL false l = l) := rfl
    have k2 : Hid (tickR false l = false) := rfl
    go_enter Try.func53, Try.ntmps53
    go_wp2
    refine bodyPost_ret (v := .tuple #[.agg #[.bool false, .int .i64 l, .int .i64 wt, .int .i64 tr], .bool false]) (by simp [results, Try.results53, go_sem, *]) rfl ⟨?_, (by repeat (first | (with_reducible exact Below.refl _ _) | (with_reducible assumption) | ((with_reducible refine Below.alloc ?_ ?_ _); rotate_left; focus (first | (simp; done) | (simp; omega) | omega)) | ((with_reducible refine Below.setCell ?_ ?_ _); rotate_left; focus (first | (simp; done) | (simp; omega) | omega)) | (with_reducible refine Below.drew ?_) | ((with_reducible apply Below.then); rotate_left; (with_reducible assumption))))⟩
    rw [k1.out, k2.out]
  · by_cases h1 : l ≤ 1
    · have k1 : Hid (tickL true l = 0) := by unfold Hid tickL beatL; simp; omega
      have k2 : Hid (tickR true l = true) := by unfold Hid tickR beatL; simp; omega
      rcases (by omega : l = 0 ∨ l = 1) with rfl | rfl
      all_goals
        go_enter Try.func53, Try.ntmps53
        go_wp2
        go_region
        go_wp2
        refine bodyPost_ret (v := .tuple #[.agg #[.bool true, .int .i64 0, .int .i64 wt, .int .i64 tr], .bool true]) (by simp [results, Try.results53, go_sem, *]) rfl ⟨?_, (by repeat (first | (with_reducible exact Below.refl _ _) | (with_reducible assumption) | ((with_reducible refine Below.alloc ?_ ?_ _); rotate_left; focus (first | (simp; done) | (simp; omega) | omega)) | ((with_reducible refine Below.setCell ?_ ?_ _); rotate_left; focus (first | (simp; done) | (simp; omega) | omega)) | (with_reducible refine Below.drew ?_) | ((with_reducible apply Below.then); rotate_left; (with_reducible assumption))))⟩
        rw [k1.out, k2.out]
    · have k1 : Hid (tickL true l = l - 1) := by unfold Hid tickL beatL; simp; omega
      have k2 : Hid (tickR true l = false) := by unfold Hid tickR beatL; simp; omega
      have h2 : ¬ l - 1 < 0 := by omega
      have h3 : (l - 1 == 0) = false := by simp; omega
      go_enter Try.func53, Try.ntmps53
      go_wp2
      go_region
      go_wp2
      refine bodyPost_ret (v := .tuple #[.agg #[.bool true, .int .i64 (l - 1), .int .i64 wt, .int .i64 tr], .bool false]) (by simp [results, Try.results53, go_sem, *]) rfl ⟨?_, (by repeat (first | (with_reducible exact Below.refl _ _) | (with_reducible assumption) | ((with_reducible refine Below.alloc ?_ ?_ _); rotate_left; focus (first | (simp; done) | (simp; omega) | omega)) | ((with_reducible refine Below.setCell ?_ ?_ _); rotate_left; focus (first | (simp; done) | (simp; omega) | omega)) | (with_reducible refine Below.drew ?_) | ((with_reducible apply Below.then); rotate_left; (with_reducible assumption))))⟩
      rw [k1.out, k2.out]

end Go.Proofs.Ytkcjdigbfcnhbaa

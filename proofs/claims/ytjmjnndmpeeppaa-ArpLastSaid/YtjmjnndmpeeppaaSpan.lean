/- What the functions on spans answer (packages span, kioskref12). Conditions: bounds of whole numbers. -/
import Derived.Test.YtjmjnndmpeeppaaNum
import Derived.Test.YtjmjnndmpeeppaaFloat
namespace Go.Proofs.Ytjmjnndmpeeppaa
open Go.RowKit
open Ieee
set_option linter.unusedVariables false
set_option linter.unusedSimpArgs false

def cutF (x : Nat) : Int := (floatToIntVal .f64 x .i64).getD 0
/-- the whole number that is cut out, where it is within -/
def wholeN (x most : Nat) : Int := if inF x most then cutF x else 0
def isF (x most : Nat) : Bool := inF x most && (double.order (FN (cutF x).toNat) x == some .eq)

theorem cutF_bd (x most : Nat) (hm : most < 9007199254740992) (h : inF x most = true) : 0 ≤ cutF x ∧ cutF x ≤ most := by
  obtain ⟨n, hn, hc⟩ := inF_cut x most hm h
  simp [cutF, hc]; omega
theorem isF_bd (x most : Nat) (hm : most < 9007199254740992) (h : isF x most = true) : 0 ≤ cutF x ∧ cutF x ≤ most := by
  unfold isF at h
  exact cutF_bd x most hm (by simp at h; exact h.1)
theorem cutF_FN (n : Nat) (h : n < 9007199254740992) : cutF (FN n) = n := by
  simp [cutF, toInt_FN n h]
theorem isF_FN (n most : Nat) (h : n < 9007199254740992) (hm : most < 9007199254740992) : isF (FN n) most = decide (n ≤ most) := by
  unfold isF
  rw [inF_FN n most h hm, cutF_FN n h]
  rw [show ((n : Int)).toNat = n by omega, order_FN_FN n n h h, cmp_eq]
  simp

set_option maxRecDepth 100000 in
theorem whole_c (x : Nat) (most : Int) (h0 : 0 ≤ most) (hm : most < 9007199254740992) (w : World) :
    Calls Try.prog 94 #[.float .f64 x, .int .i64 most] w fun e w' => e = .returned (.tuple #[.int .i64 (wholeN x most.toNat), .bool (isF x most.toNat)]) ∧ w = w' := by
  have hF : floatOfInt .f64 most = FN most.toNat := by rw [← FN_int, Int.toNat_of_nonneg h0]
  by_cases hin : inF x most.toNat = true
  · obtain ⟨n, hn, hcut⟩ := inF_cut x most.toNat (by omega) hin
    have hc : ∀ w, (convert 125 3 (.float .f64 x)).run Try.prog w = .ok (.int .i64 n) w := fun w => run_convert_float_int w 125 3 .f64 .i64 x n (by rw [Try.underlying125]; rfl) Try.underlying3 hcut
    have e1 : cutF x = n := by simp [cutF, hcut]
    have e2 : floatOfInt .f64 (n : Int) = FN n := FN_int n
    have H : Hid (∀ b, (double.order (FN n) x == some .eq) = b → Value.bool b = .bool (isF x most.toNat)) := fun b hb => by
      unfold isF; rw [hin, e1, show ((n : Int)).toNat = n by omega, ← hb]; rfl
    have Hn : Hid (Value.int .i64 (n : Int) = .int .i64 (wholeN x most.toNat)) := by unfold Hid wholeN; rw [if_pos hin, e1]
    unfold inF at hin
    simp only [Bool.and_eq_true, FN_zero] at hin
    obtain ⟨g1, g2⟩ := hin
    rw [← hF] at g2
    have g1' : (FloatKind.f64.format.order x 0 == some .gt || FloatKind.f64.format.order x 0 == some .eq) = true := g1
    have g2' : (FloatKind.f64.format.order x (floatOfInt .f64 most) == some .lt || FloatKind.f64.format.order x (floatOfInt .f64 most) == some .eq) = true := g2
    clear g1 g2 hF e1 e2 hcut
    go_enter Try.func94, Try.ntmps94
    go_wp2
    go_ret2
    simp only []
    rw [← Hn.out, ← H.out _ (by rw [← FN_int])]
    exact ⟨rfl, trivial⟩
  · have hin' : inF x most.toNat = false := by simpa using hin
    have Hn : Hid (Value.int .i64 0 = .int .i64 (wholeN x most.toNat)) := by unfold Hid wholeN; rw [hin']; rfl
    have H : Hid (Value.bool false = .bool (isF x most.toNat)) := by unfold isF Hid; rw [hin']; rfl
    unfold inF at hin'
    rw [FN_zero, ← hF] at hin'
    by_cases g1 : (FloatKind.f64.format.order x 0 == some .gt || FloatKind.f64.format.order x 0 == some .eq) = true
    · have g2 : (FloatKind.f64.format.order x (floatOfInt .f64 most) == some .lt || FloatKind.f64.format.order x (floatOfInt .f64 most) == some .eq) = false := by
        have g1' : (double.order x 0 == some .gt || double.order x 0 == some .eq) = true := g1
        rw [g1', Bool.true_and] at hin'; exact hin'
      clear hin hin' hF
      go_enter Try.func94, Try.ntmps94
      go_wp2
      go_ret2
      simp only []
      rw [← Hn.out, ← H.out]
      exact ⟨rfl, trivial⟩
    · have g1 : (FloatKind.f64.format.order x 0 == some .gt || FloatKind.f64.format.order x 0 == some .eq) = false := by simpa using g1
      clear hin hin' hF
      go_enter Try.func94, Try.ntmps94
      go_wp2
      go_ret2
      simp only []
      rw [← Hn.out, ← H.out]
      exact ⟨rfl, trivial⟩

theorem whole32_c (x : Nat) (w : World) : Calls Try.prog 94 #[.float .f64 x, .int .i64 4294967295] w fun e w' => e = .returned (.tuple #[.int .i64 (wholeN x 4294967295), .bool (isF x 4294967295)]) ∧ w = w' :=
  whole_c x 4294967295 (by decide) (by decide) w
theorem whole16_c (x : Nat) (w : World) : Calls Try.prog 94 #[.float .f64 x, .int .i64 65536] w fun e w' => e = .returned (.tuple #[.int .i64 (wholeN x 65536), .bool (isF x 65536)]) ∧ w = w' :=
  whole_c x 65536 (by decide) (by decide) w

/-- is it a span? where it begins, how many numbers it has, the error -/
def spanOk (re im : Nat) : Bool := isF re 4294967295 && isF im 65536
def spanS (re im : Nat) : Int := if spanOk re im then cutF re else 0
def spanN (re im : Nat) : Int := if spanOk re im then cutF im else 0
def spanE (re im : Nat) : Int := if spanOk re im then 0 else 1
theorem spanOk_bd {re im : Nat} (h : spanOk re im = true) : 0 ≤ spanS re im ∧ spanS re im ≤ 4294967295 ∧ 0 ≤ spanN re im ∧ spanN re im ≤ 65536 := by
  unfold spanS spanN
  rw [if_pos h, if_pos h]
  unfold spanOk at h
  simp only [Bool.and_eq_true] at h
  have := isF_bd re _ (by decide) h.1
  have := isF_bd im _ (by decide) h.2
  omega
theorem spanE_t {re im : Nat} (h : spanOk re im = true) : spanE re im = 0 := by unfold spanE; rw [if_pos h]
theorem spanE_f {re im : Nat} (h : spanOk re im = false) : spanE re im = 1 := by unfold spanE; rw [h]; rfl
theorem span_f {re im : Nat} (h : spanOk re im = false) : spanS re im = 0 ∧ spanN re im = 0 := by unfold spanS spanN; rw [h]; exact ⟨rfl, rfl⟩

set_option maxRecDepth 100000 in
theorem parts_c (re im : Nat) (w : World) : Calls Try.prog 89 #[.complex .f64 re im] w fun e w' => e = .returned (.tuple #[.int .i64 (spanS re im), .int .i64 (spanN re im), .int .i64 (spanE re im)]) ∧ w = w' := by
  have key : ∀ a b, isF re 4294967295 = a → isF im 65536 = b → Hid (spanS re im = (if a && b then wholeN re 4294967295 else 0) ∧ spanN re im = (if a && b then wholeN im 65536 else 0) ∧ spanE re im = (if a && b then 0 else 1)) := by
    intro a b ha hb
    have hk : spanOk re im = (a && b) := by unfold spanOk; rw [ha, hb]
    unfold spanS spanN spanE Hid
    rw [hk]
    cases a <;> cases b <;> simp
    unfold isF at ha hb
    simp at ha hb
    unfold wholeN
    rw [if_pos ha.1, if_pos hb.1]
    exact ⟨rfl, rfl⟩
  cases ha : isF re 4294967295 <;> cases hb : isF im 65536
  all_goals
    have K := key _ _ ha hb
    clear key
    go_enter Try.func89, Try.ntmps89
    go_wp2_with (first | (go_at_call 94; (with_reducible refine (whole32_c _ _).mono ?_); rintro e w' ⟨rfl, rfl⟩) | (go_at_call 94; (with_reducible refine (whole16_c _ _).mono ?_); rintro e w' ⟨rfl, rfl⟩))
    go_ret3
    obtain ⟨k1, k2, k3⟩ := K.out
    rw [k1, k2, k3]
    exact ⟨rfl, rfl⟩

/-- the bits of a whole number -/
def fI (n : Int) : Nat := floatOfInt .f64 n
theorem fI_nat (n : Nat) : fI (n : Int) = FN n := by unfold fI; exact FN_int n
theorem fI_zero : fI 0 = 0 := (fI_nat 0).trans FN_zero
theorem fI_of {n : Int} (h : 0 ≤ n) : fI n = FN n.toNat := by rw [← fI_nat, Int.toNat_of_nonneg h]

theorem of_c (s n : Int) (w : World) : Calls Try.prog 93 #[.int .i64 s, .int .i64 n] w fun e w' => e = .returned (.complex .f64 (fI s) (fI n)) ∧ w = w' := by
  go_enter Try.func93, Try.ntmps93
  go_wp2
  go_ret
  exact ⟨rfl, rfl⟩

/-- may it be a span? -/
def ofOk (s n : Int) : Bool := within s 4294967295 && within n 65536
def ofS (s n : Int) : Nat := if ofOk s n then fI s else 0
def ofN (s n : Int) : Nat := if ofOk s n then fI n else 0
def ofE (s n : Int) : Int := if ofOk s n then 0 else 1
theorem of_t {s n : Int} (h : ofOk s n = true) : ofS s n = fI s ∧ ofN s n = fI n ∧ ofE s n = 0 := by unfold ofS ofN ofE; rw [h]; exact ⟨rfl, rfl, rfl⟩
theorem of_f {s n : Int} (h : ofOk s n = false) : ofS s n = 0 ∧ ofN s n = 0 ∧ ofE s n = 1 := by unfold ofS ofN ofE; rw [h]; exact ⟨rfl, rfl, rfl⟩
theorem ofOk_mk {s n : Int} (h : 0 ≤ s ∧ s ≤ 4294967295 ∧ 0 ≤ n ∧ n ≤ 65536) : ofOk s n = true := by
  unfold ofOk; rw [within_mk (by omega), within_mk (by omega)]; rfl

set_option maxRecDepth 100000 in
theorem spanOf_c (s n : Int) (w : World) : Calls Try.prog 87 #[.int .i64 s, .int .i64 n] w fun e w' => e = .returned (.tuple #[.complex .f64 (ofS s n) (ofN s n), .int .i64 (ofE s n)]) ∧ w = w' := by
  cases h1 : within s 4294967295
  · have K : Hid (ofOk s n = false) := by unfold ofOk Hid; rw [h1]; rfl
    go_enter Try.func87, Try.ntmps87
    go_wp2_with (go_at_call 52; (with_reducible refine (spanIs_c _ _).mono ?_); rintro e w' ⟨rfl, rfl⟩)
    go_ret2
    obtain ⟨k1, k2, k3⟩ := of_f K.out
    rw [k1, k2, k3]
    exact ⟨rfl, rfl⟩
  · by_cases h2 : 0 ≤ n
    · by_cases h3 : n ≤ 65536
      · have K : Hid (ofOk s n = true) := by unfold ofOk Hid; rw [h1, within_mk ⟨h2, h3⟩]; rfl
        go_enter Try.func87, Try.ntmps87
        go_wp2_with (first | (go_at_call 52; (with_reducible refine (spanIs_c _ _).mono ?_); rintro e w' ⟨rfl, rfl⟩) | (go_at_call 93; (with_reducible refine (of_c _ _ _).mono ?_); rintro e w' ⟨rfl, rfl⟩))
        go_ret2
        obtain ⟨k1, k2, k3⟩ := of_t K.out
        rw [k1, k2, k3]
        exact ⟨rfl, rfl⟩
      · have K : Hid (ofOk s n = false) := by unfold ofOk Hid; rw [h1]; simp [within]; omega
        go_enter Try.func87, Try.ntmps87
        go_wp2_with (first | (go_at_call 52; (with_reducible refine (spanIs_c _ _).mono ?_); rintro e w' ⟨rfl, rfl⟩) | (go_at_call 93; (with_reducible refine (of_c _ _ _).mono ?_); rintro e w' ⟨rfl, rfl⟩))
        go_ret2
        obtain ⟨k1, k2, k3⟩ := of_f K.out
        rw [k1, k2, k3]
        exact ⟨rfl, rfl⟩
    · have K : Hid (ofOk s n = false) := by unfold ofOk Hid; rw [h1]; simp [within]; omega
      go_enter Try.func87, Try.ntmps87
      go_wp2_with (first | (go_at_call 52; (with_reducible refine (spanIs_c _ _).mono ?_); rintro e w' ⟨rfl, rfl⟩) | (go_at_call 93; (with_reducible refine (of_c _ _ _).mono ?_); rintro e w' ⟨rfl, rfl⟩))
      go_ret2
      obtain ⟨k1, k2, k3⟩ := of_f K.out
      rw [k1, k2, k3]
      exact ⟨rfl, rfl⟩

/-- whether a span has a number -/
def hasOk (re im : Nat) (x : Int) : Bool := spanOk re im && within x 4294967295
def hasB (re im : Nat) (x : Int) : Bool := hasOk re im x && decide (woff x (spanS re im) < spanN re im)
def hasE (re im : Nat) (x : Int) : Int := if hasOk re im x then 0 else 1
theorem has_t {re im : Nat} {x : Int} (h : hasOk re im x = true) : hasB re im x = decide (woff x (spanS re im) < spanN re im) ∧ hasE re im x = 0 := by unfold hasB hasE; rw [h]; exact ⟨rfl, rfl⟩
theorem has_f {re im : Nat} {x : Int} (h : hasOk re im x = false) : hasB re im x = false ∧ hasE re im x = 1 := by unfold hasB hasE; rw [h]; exact ⟨rfl, rfl⟩


/-- what two spans have in common -/
def meetS (a n b k : Int) : Int := if max (wdiff a b) 0 < min (wdiff a b + n) k then wadd b (max (wdiff a b) 0) else 0
def meetN (a n b k : Int) : Int := if max (wdiff a b) 0 < min (wdiff a b + n) k then min (wdiff a b + n) k - max (wdiff a b) 0 else 0
theorem meet_bd (a n b k : Int) (hk : k ≤ 65536) : 0 ≤ meetS a n b k ∧ meetS a n b k ≤ 4294967295 ∧ 0 ≤ meetN a n b k ∧ meetN a n b k ≤ 65536 := by
  have := wadd_bd b (max (wdiff a b) 0)
  unfold meetS meetN
  split <;> omega
/-- of any two complex numbers -/
def meetOk (p1 p2 q1 q2 : Nat) : Bool := spanOk p1 p2 && spanOk q1 q2
def meetR (p1 p2 q1 q2 : Nat) : Nat := if meetOk p1 p2 q1 q2 then fI (meetS (spanS p1 p2) (spanN p1 p2) (spanS q1 q2) (spanN q1 q2)) else 0
def meetI (p1 p2 q1 q2 : Nat) : Nat := if meetOk p1 p2 q1 q2 then fI (meetN (spanS p1 p2) (spanN p1 p2) (spanS q1 q2) (spanN q1 q2)) else 0
def meetE (p1 p2 q1 q2 : Nat) : Int := if meetOk p1 p2 q1 q2 then 0 else 1
theorem meet_t {p1 p2 q1 q2 : Nat} (h : meetOk p1 p2 q1 q2 = true) : meetR p1 p2 q1 q2 = fI (meetS (spanS p1 p2) (spanN p1 p2) (spanS q1 q2) (spanN q1 q2)) ∧
    meetI p1 p2 q1 q2 = fI (meetN (spanS p1 p2) (spanN p1 p2) (spanS q1 q2) (spanN q1 q2)) ∧ meetE p1 p2 q1 q2 = 0 := by unfold meetR meetI meetE; rw [h]; exact ⟨rfl, rfl, rfl⟩
theorem meet_f {p1 p2 q1 q2 : Nat} (h : meetOk p1 p2 q1 q2 = false) : meetR p1 p2 q1 q2 = 0 ∧ meetI p1 p2 q1 q2 = 0 ∧ meetE p1 p2 q1 q2 = 1 := by unfold meetR meetI meetE; rw [h]; exact ⟨rfl, rfl, rfl⟩

set_option maxRecDepth 100000 in
theorem spanMeet_c (p1 p2 q1 q2 : Nat) (w : World) : Calls Try.prog 88 #[.complex .f64 p1 p2, .complex .f64 q1 q2] w fun e w' =>
    e = .returned (.tuple #[.complex .f64 (meetR p1 p2 q1 q2) (meetI p1 p2 q1 q2), .int .i64 (meetE p1 p2 q1 q2)]) ∧ w = w' := by
  cases h1 : spanOk p1 p2
  · have K : Hid (meetOk p1 p2 q1 q2 = false) := by unfold meetOk Hid; rw [h1]; rfl
    have hE := spanE_f h1
    go_enter Try.func88, Try.ntmps88
    go_wp2_with (go_at_call 89; (with_reducible refine (parts_c _ _ _).mono ?_); rintro e w' ⟨rfl, rfl⟩)
    go_ret2
    obtain ⟨k1, k2, k3⟩ := meet_f K.out
    rw [k1, k2, k3]
    exact ⟨rfl, rfl⟩
  · have hE := spanE_t h1
    have hb := spanOk_bd h1
    cases h2 : spanOk q1 q2
    · have K : Hid (meetOk p1 p2 q1 q2 = false) := by unfold meetOk Hid; rw [h1, h2]; rfl
      have hE' := spanE_f h2
      go_enter Try.func88, Try.ntmps88
      go_wp2_with (go_at_call 89; (with_reducible refine (parts_c _ _ _).mono ?_); rintro e w' ⟨rfl, rfl⟩)
      go_ret2
      obtain ⟨k1, k2, k3⟩ := meet_f K.out
      rw [k1, k2, k3]
      exact ⟨rfl, rfl⟩
    · have K : Hid (meetOk p1 p2 q1 q2 = true) := by unfold meetOk Hid; rw [h1, h2]; rfl
      have hE' := spanE_t h2
      have hb' := spanOk_bd h2
      have hd := wdiff_bd (spanS p1 p2) (spanS q1 q2)
      by_cases hlt : max (wdiff (spanS p1 p2) (spanS q1 q2)) 0 < min (wdiff (spanS p1 p2) (spanS q1 q2) + spanN p1 p2) (spanN q1 q2)
      · have K2 : Hid (meetS (spanS p1 p2) (spanN p1 p2) (spanS q1 q2) (spanN q1 q2) = wadd (spanS q1 q2) (max (wdiff (spanS p1 p2) (spanS q1 q2)) 0) ∧
            meetN (spanS p1 p2) (spanN p1 p2) (spanS q1 q2) (spanN q1 q2) = min (wdiff (spanS p1 p2) (spanS q1 q2) + spanN p1 p2) (spanN q1 q2) - max (wdiff (spanS p1 p2) (spanS q1 q2)) 0) := by
          unfold meetS meetN Hid; rw [if_pos hlt, if_pos hlt]; exact ⟨rfl, rfl⟩
        go_enter Try.func88, Try.ntmps88
        go_wp2_with (first | (go_at_call 89; (with_reducible refine (parts_c _ _ _).mono ?_); rintro e w' ⟨rfl, rfl⟩) | (go_at_call 70; (with_reducible refine (spanDiff_c _ _ _).mono ?_); rintro e w' ⟨rfl, rfl⟩) | (go_at_call 74; (with_reducible refine (spanAdd_c _ _ _).mono ?_); rintro e w' ⟨rfl, rfl⟩) | (go_at_call 93; (with_reducible refine (of_c _ _ _).mono ?_); rintro e w' ⟨rfl, rfl⟩))
        all_goals
          go_ret2
          obtain ⟨k1, k2, k3⟩ := meet_t K.out
          obtain ⟨m1, m2⟩ := K2.out
          rw [k1, k2, k3, m1, m2]
          generalize spanS p1 p2 = a at *
          generalize spanS q1 q2 = b at *
          generalize wdiff a b = d at *
          generalize spanN p1 p2 = n at *
          generalize spanN q1 q2 = k at *
          first | rw [show max d 0 = 0 by omega] | rw [show max d 0 = d by omega]
          first | rw [show min (d + n) k = k by omega] | rw [show min (d + n) k = d + n by omega]
          first | exact ⟨rfl, rfl⟩ | (simp only [Int.sub_zero]; exact ⟨rfl, trivial⟩) | exact ⟨by simp, rfl⟩
      · have K2 : Hid (meetS (spanS p1 p2) (spanN p1 p2) (spanS q1 q2) (spanN q1 q2) = 0 ∧ meetN (spanS p1 p2) (spanN p1 p2) (spanS q1 q2) (spanN q1 q2) = 0) := by
          unfold meetS meetN Hid; rw [if_neg hlt, if_neg hlt]; exact ⟨rfl, rfl⟩
        go_enter Try.func88, Try.ntmps88
        go_wp2_with (first | (go_at_call 89; (with_reducible refine (parts_c _ _ _).mono ?_); rintro e w' ⟨rfl, rfl⟩) | (go_at_call 70; (with_reducible refine (spanDiff_c _ _ _).mono ?_); rintro e w' ⟨rfl, rfl⟩) | (go_at_call 74; (with_reducible refine (spanAdd_c _ _ _).mono ?_); rintro e w' ⟨rfl, rfl⟩) | (go_at_call 93; (with_reducible refine (of_c _ _ _).mono ?_); rintro e w' ⟨rfl, rfl⟩))
        all_goals
          go_ret2
          obtain ⟨k1, k2, k3⟩ := meet_t K.out
          obtain ⟨m1, m2⟩ := K2.out
          rw [k1, k2, k3, m1, m2, fI_zero]
          exact ⟨rfl, rfl⟩

/-- what the reference tells of a complex number -/
def rngB (re im : Nat) : Bool := inF re 4294967295 && inF im 65536
def refS (re im : Nat) : Int := if rngB re im then cutF re else 0
def refN (re im : Nat) : Int := if rngB re im then cutF im else 0
theorem ref_t {re im : Nat} (h : spanOk re im = true) : refS re im = spanS re im ∧ refN re im = spanN re im := by
  have h1 : rngB re im = true := by
    unfold spanOk isF at h; unfold rngB
    simp only [Bool.and_eq_true] at h ⊢
    exact ⟨h.1.1, h.2.1⟩
  unfold refS refN spanS spanN
  rw [h, h1]; exact ⟨rfl, rfl⟩




theorem meet_eq1 {s n t m : Int} (hs : 0 ≤ s ∧ s ≤ 4294967295) (ht : 0 ≤ t ∧ t ≤ 4294967295) (hn : 0 ≤ n ∧ n ≤ 65536) (hm : 0 ≤ m ∧ m ≤ 65536) (h1 : 0 < n) (h2 : woff s t < m) :
    meetS s n t m = s ∧ meetN s n t m = min n (m - woff s t) := by
  have e : wdiff s t = woff s t := by unfold wdiff woff at *; omega
  have h3 := woff_bd s t
  unfold meetS meetN
  rw [e, if_pos (by omega), if_pos (by omega)]
  refine ⟨?_, by omega⟩
  rw [show max (woff s t) 0 = woff s t by omega]
  unfold wadd woff at *; omega
theorem meet_eq2 {s n t m : Int} (hs : 0 ≤ s ∧ s ≤ 4294967295) (ht : 0 ≤ t ∧ t ≤ 4294967295) (hn : 0 ≤ n ∧ n ≤ 65536) (hm : 0 ≤ m ∧ m ≤ 65536) (h0 : ¬ (0 < n ∧ woff s t < m)) (h1 : 0 < m) (h2 : woff t s < n) :
    meetS s n t m = t ∧ meetN s n t m = min m (n - woff t s) := by
  have h3 := woff_bd t s
  have e : wdiff s t = - woff t s := by unfold wdiff woff at *; omega
  unfold meetS meetN
  rw [e, if_pos (by omega), if_pos (by omega)]
  refine ⟨?_, by omega⟩
  rw [show max (-woff t s) 0 = 0 by omega]
  unfold wadd; omega
theorem meet_eq3 {s n t m : Int} (hs : 0 ≤ s ∧ s ≤ 4294967295) (ht : 0 ≤ t ∧ t ≤ 4294967295) (hn : 0 ≤ n ∧ n ≤ 65536) (hm : 0 ≤ m ∧ m ≤ 65536) (h0 : ¬ (0 < n ∧ woff s t < m)) (h1 : ¬ (0 < m ∧ woff t s < n)) :
    meetS s n t m = 0 ∧ meetN s n t m = 0 := by
  have e : ¬ (max (wdiff s t) 0 < min (wdiff s t + n) m) := by unfold wdiff woff at *; omega
  unfold meetS meetN
  rw [if_neg e, if_neg e]; exact ⟨rfl, rfl⟩

attribute [irreducible] fI ofS ofN ofE ofOk spanS spanN spanE spanOk hasB hasE hasOk meetS meetN meetR meetI meetE meetOk refS refN rngB wholeN isF cutF
end Go.Proofs.Ytjmjnndmpeeppaa

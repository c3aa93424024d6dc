/- Plain facts on the whole numbers that a float64 holds, and on cutting a float64 to a whole number. Condition: whole numbers below 2 to the 53rd. -/
import Derived.WalkKit
import Derived.WalkLawsBesides
import Derived.Laws.FloatArith
namespace Go.Proofs.Ytjmjnndmpeeppaa
open Ieee

theorem d_least : double.leastPlace = -1074 := by decide
theorem d_binade : double.binade = 4503599627370496 := by decide
theorem d_inf : double.infRung = 9218868437227405312 := by decide
theorem d_sign : double.signWeight = 9223372036854775808 := by decide

/-- the bits of a whole number -/
def FN (n : Nat) : Nat := FloatKind.f64.nearest (n : Int)

theorem cut0 (neg : Bool) (n : Nat) : Toward.even.cut neg n 0 = n := by
  simp [Toward.cut, Nat.mod_one]

theorem log_le (n : Nat) (h0 : 0 < n) (h : n < 9007199254740992) : n.log2 ≤ 52 := by
  have := (Nat.log2_lt (n := n) (k := 53) (by omega)).2 (by simpa using h)
  omega
theorem min_aux (l k : Nat) (hl : l ≤ 52) (hk : k < 9007199254740992) : min ((l + 1022) * 4503599627370496 + k) 9218868437227405312 = (l + 1022) * 4503599627370496 + k := by
  have : (l + 1022) * 4503599627370496 ≤ 1074 * 4503599627370496 := Nat.mul_le_mul_right _ (by omega)
  omega
theorem mant_lt (n : Nat) (h0 : 0 < n) (h : n < 9007199254740992) : n * 2 ^ (52 - n.log2) < 9007199254740992 := by
  have hl := log_le n h0 h
  have hhi : n < 2 ^ (n.log2 + 1) := Nat.lt_log2_self
  have h1 : n * 2 ^ (52 - n.log2) < 2 ^ (n.log2 + 1) * 2 ^ (52 - n.log2) := Nat.mul_lt_mul_of_pos_right hhi (Nat.two_pow_pos _)
  rw [← Nat.pow_add, show n.log2 + 1 + (52 - n.log2) = 53 by omega] at h1
  simpa using h1
theorem mant_ge (n : Nat) (h0 : 0 < n) (h : n < 9007199254740992) : 4503599627370496 ≤ n * 2 ^ (52 - n.log2) := by
  have hl := log_le n h0 h
  have h1 : 2 ^ n.log2 * 2 ^ (52 - n.log2) ≤ n * 2 ^ (52 - n.log2) := Nat.mul_le_mul_right _ (Nat.log2_self_le (by omega))
  rw [← Nat.pow_add, show n.log2 + (52 - n.log2) = 52 by omega] at h1
  simpa using h1

theorem FN_zero : FN 0 = 0 := by decide
theorem FN_pos (n : Nat) (h0 : 0 < n) (h : n < 9007199254740992) : FN n = (n.log2 + 1022) * 4503599627370496 + n * 2 ^ (52 - n.log2) := by
  have hl := log_le n h0 h
  have e1 := mant_lt n h0 h
  have hn : decide ((n : Int) < 0) = false := by simp
  have hna : (n : Int).natAbs = n := by omega
  show double.nearest (decide ((n : Int) < 0)) (n : Int).natAbs 0 = _
  rw [hn, hna]
  unfold Format.nearest
  rw [if_neg (show ¬ n = 0 by omega)]
  have hmax : max ((0 : Int) + (n.log2 : Int) - (double.fractionBits : Int)) double.leastPlace = (n.log2 : Int) - 52 := by rw [d_least, show (double.fractionBits : Int) = 52 from rfl]; omega
  rw [hmax]
  have ea : ((0 : Int) - ((n.log2 : Int) - 52)).toNat = 52 - n.log2 := by omega
  have eb : ((n.log2 : Int) - 52 - 0).toNat = 0 := by omega
  have ec : ((n.log2 : Int) - 52 - double.leastPlace).toNat = n.log2 + 1022 := by rw [d_least]; omega
  simp only [ea, eb, ec, cut0, Nat.shiftLeft_eq, Format.word, Bool.false_eq_true, if_false, d_binade, d_inf]
  exact min_aux _ _ hl e1

theorem rd_aux0 (l k : Nat) (hl : l ≤ 52) (hk : k < 9007199254740992) : (l + 1022) * 4503599627370496 + k < 9218868437227405312 ∧ 4503599627370496 ≤ (l + 1022) * 4503599627370496 + k := by
  have h1 : (l + 1022) * 4503599627370496 ≤ 4836865999795912704 := by omega
  refine ⟨?_, Nat.le_trans (Nat.le_mul_of_pos_left _ (Nat.succ_pos _)) (Nat.le_add_right _ _)⟩
  generalize (l + 1022) * 4503599627370496 = z at *
  omega
theorem rd_aux1 (l k : Nat) (hl : l ≤ 52) (hk : k < 9007199254740992) : ((l + 1022) * 4503599627370496 + k) / 9223372036854775808 % 2 = 0 ∧ ((l + 1022) * 4503599627370496 + k) % 9223372036854775808 = (l + 1022) * 4503599627370496 + k ∧
    ¬ ((l + 1022) * 4503599627370496 + k) < 4503599627370496 ∧ ((l + 1022) * 4503599627370496 + k) < 9218868437227405312 := by
  obtain ⟨h1, h2⟩ := rd_aux0 l k hl hk
  generalize (l + 1022) * 4503599627370496 + k = z at *
  have h3 : z < 9223372036854775808 := Nat.lt_trans h1 (by decide)
  refine ⟨?_, Nat.mod_eq_of_lt h3, by omega, h1⟩
  rw [Nat.div_eq_of_lt h3]
theorem rd_aux2 (l k : Nat) (hk : k < 9007199254740992) (h2 : 4503599627370496 ≤ k) : ((l + 1022) * 4503599627370496 + k) % 4503599627370496 = k - 4503599627370496 ∧ ((l + 1022) * 4503599627370496 + k) / 4503599627370496 = l + 1023 := by
  rw [Nat.add_comm, Nat.add_mul_mod_self_right, Nat.add_mul_div_right _ _ (by decide : 0 < 4503599627370496)]
  have h3 : k / 4503599627370496 = 1 := by omega
  rw [h3]
  omega
theorem read_aux (l k : Nat) (hl : l ≤ 52) (hk : k < 9007199254740992) (h2 : 4503599627370496 ≤ k) : double.read ((l + 1022) * 4503599627370496 + k) = .number false k ((l : Int) - 52) := by
  obtain ⟨a1, a2, a3, a4⟩ := rd_aux1 l k hl hk
  obtain ⟨b1, b2⟩ := rd_aux2 l k hk h2
  generalize (l + 1022) * 4503599627370496 + k = z at *
  unfold Format.read
  rw [d_sign, d_binade, d_inf, d_least, a1, a2]
  dsimp only
  rw [if_neg a3, if_pos a4, b1, b2, Nat.add_sub_cancel' h2]
  have : (-1074 : Int) + ((l + 1023 - 1 : Nat) : Int) = (l : Int) - 52 := by omega
  rw [this]
  rfl
theorem read_pos (n : Nat) (h0 : 0 < n) (h : n < 9007199254740992) : double.read (FN n) = .number false (n * 2 ^ (52 - n.log2)) ((n.log2 : Int) - 52) := by
  have hl := log_le n h0 h
  have e1 := mant_lt n h0 h
  have e2 := mant_ge n h0 h
  rw [FN_pos n h0 h]
  generalize n * 2 ^ (52 - n.log2) = k at *
  generalize n.log2 = l at *
  exact read_aux l k hl e1 e2

theorem read_zero : double.read 0 = .number false 0 (-1074) := by decide
/-- the place of a whole number's last digit, and the digits -/
def plc (n : Nat) : Int := if n = 0 then -1074 else (n.log2 : Int) - 52
def dig (n : Nat) : Nat := if n = 0 then 0 else n * 2 ^ (52 - n.log2)
theorem read_FN (n : Nat) (h : n < 9007199254740992) : double.read (FN n) = .number false (dig n) (plc n) := by
  by_cases h0 : n = 0
  · subst h0
    rw [FN_zero]
    show double.read 0 = .number false 0 (-1074)
    exact read_zero
  · rw [read_pos n (by omega) h]; simp [dig, plc, h0]
theorem dig_eq (n : Nat) (h : n < 9007199254740992) : plc n ≤ 0 ∧ dig n = n * 2 ^ (-(plc n)).toNat := by
  by_cases h0 : n = 0
  · subst h0; exact ⟨by decide, by simp [dig]⟩
  · have hl := log_le n (by omega) h
    simp only [dig, plc, if_neg h0]
    refine ⟨by omega, ?_⟩
    rw [show (-((n.log2 : Int) - 52)).toNat = 52 - n.log2 by omega]

theorem signed_false (m u : Nat) : signed false m u = ((m * 2 ^ u : Nat) : Int) := by simp [signed, Nat.shiftLeft_eq]
theorem signed_true (m u : Nat) : signed true m u = -((m * 2 ^ u : Nat) : Int) := by simp [signed, Nat.shiftLeft_eq]

/-- A word's number against a whole number: the common place is at most 0. -/
theorem order_num (x : Nat) (s : Bool) (m : Nat) (e : Int) (n : Nat) (h : n < 9007199254740992) (hx : double.read x = .number s m e) :
    ∃ u : Nat, (e + (u : Int)).toNat = e + u ∧ double.order x (FN n) = some (compare (signed s m (e + (u : Int)).toNat) ((n * 2 ^ u : Nat) : Int)) := by
  obtain ⟨hp, hd⟩ := dig_eq n h
  refine ⟨(-(min e (plc n))).toNat, by omega, ?_⟩
  unfold Format.order
  rw [hx, read_FN n h]
  simp only [Datum.order]
  rw [signed_false, hd, Nat.mul_assoc, ← Nat.pow_add]
  rw [show (e - min e (plc n)).toNat = (e + ((-(min e (plc n))).toNat : Int)).toNat by omega]
  rw [show (-(plc n)).toNat + (plc n - min e (plc n)).toNat = (-(min e (plc n))).toNat by omega]

theorem cmp_lt {a b : Int} (h : a < b) : compare a b = .lt := by simp [compare, compareOfLessAndEq, h]
theorem cmp_eq (a : Int) : compare a a = .eq := by simp [compare, compareOfLessAndEq]
theorem cmp_gt {a b : Int} (h : b < a) : compare a b = .gt := by
  simp only [compare, compareOfLessAndEq]
  rw [if_neg (by omega), if_neg (by omega)]
theorem order_FN_FN (a b : Nat) (ha : a < 9007199254740992) (hb : b < 9007199254740992) : double.order (FN a) (FN b) = some (compare (a : Int) (b : Int)) := by
  obtain ⟨u, hu, ho⟩ := order_num (FN a) false (dig a) (plc a) b hb (read_FN a ha)
  obtain ⟨hp, hd⟩ := dig_eq a ha
  rw [ho, signed_false, hd, Nat.mul_assoc, ← Nat.pow_add, show (-(plc a)).toNat + (plc a + (u : Int)).toNat = u by omega]
  congr 1
  have hu : 0 < 2 ^ u := Nat.two_pow_pos u
  rcases Nat.lt_trichotomy a b with hlt | heq | hgt
  · rw [cmp_lt (Int.ofNat_lt.2 hlt), cmp_lt (Int.ofNat_lt.2 (Nat.mul_lt_mul_of_pos_right hlt hu))]
  · subst heq
    rw [cmp_eq, cmp_eq]
  · rw [cmp_gt (Int.ofNat_lt.2 hgt), cmp_gt (Int.ofNat_lt.2 (Nat.mul_lt_mul_of_pos_right hgt hu))]

/-- 'x >= 0 && x <= most', as the model compares -/
def inF (x : Nat) (most : Nat) : Bool := (double.order x (FN 0) == some .gt || double.order x (FN 0) == some .eq) && (double.order x (FN most) == some .lt || double.order x (FN most) == some .eq)

theorem cut_zero (s : Bool) (n d : Nat) : Toward.zero.cut s n d = n / 2 ^ d := by
  unfold Toward.cut
  simp only [Bool.toNat_false, Nat.add_zero, Nat.shiftLeft_eq, Nat.one_mul]
  by_cases h : d ≤ n.log2 + 2
  · rw [Nat.min_eq_left h]
  · rw [Nat.min_eq_right (by omega)]
    have h1 : n < 2 ^ (n.log2 + 1) := Nat.lt_log2_self
    have h2 : 2 ^ (n.log2 + 1) ≤ 2 ^ (n.log2 + 2) := Nat.pow_le_pow_right (by decide) (by omega)
    have h3 : 2 ^ (n.log2 + 2) ≤ 2 ^ d := Nat.pow_le_pow_right (by decide) (by omega)
    rw [Nat.div_eq_of_lt (by omega), Nat.div_eq_of_lt (by omega)]

theorem cmp_ge {a b : Int} (h : (some (compare a b) == some Ordering.gt || some (compare a b) == some Ordering.eq) = true) : b ≤ a := by
  simp only [compare, compareOfLessAndEq] at h
  split at h
  · simp at h
  · omega
theorem cmp_le {a b : Int} (h : (some (compare a b) == some Ordering.lt || some (compare a b) == some Ordering.eq) = true) : a ≤ b := by
  simp only [compare, compareOfLessAndEq] at h
  split at h
  · omega
  · split at h
    · omega
    · simp at h

/-- What is from 0 to a whole number is cut to a whole number from 0 to it. -/
theorem inF_cut (x most : Nat) (hm : most < 9007199254740992) (h : inF x most = true) : ∃ n : Nat, n ≤ most ∧ floatToIntVal .f64 x .i64 = some (n : Int) := by
  unfold inF at h
  simp only [Bool.and_eq_true] at h
  obtain ⟨h1, h2⟩ := h
  cases hx : double.read x with
  | nan s t => rw [Format.order, hx] at h1; simp [Datum.order] at h1
  | infinity s =>
    rw [Format.order, hx, read_FN _ (by decide)] at h1
    rw [Format.order, hx, read_FN _ hm] at h2
    cases s <;> simp [Datum.order] at h1 h2
  | number s m e =>
    obtain ⟨u, hu, ho⟩ := order_num x s m e 0 (by decide) hx
    obtain ⟨u', hu', ho'⟩ := order_num x s m e most hm hx
    rw [ho] at h1
    rw [ho'] at h2
    have g1 := cmp_ge h1
    have g2 := cmp_le h2
    have hmag : s = true → m = 0 := by
      intro hs
      subst hs
      rw [signed_true] at g1
      have hp : 0 < 2 ^ (e + (u : Int)).toNat := Nat.two_pow_pos _
      rcases Nat.eq_zero_or_pos m with h0 | h0
      · exact h0
      · have := Nat.mul_pos h0 hp
        omega
    have key : (m * 2 ^ e.toNat) / 2 ^ (-e).toNat ≤ most := by
      have h3 : m * 2 ^ (e + (u' : Int)).toNat ≤ most * 2 ^ u' := by
        cases s with
        | false => rw [signed_false] at g2; exact_mod_cast g2
        | true => rw [hmag rfl]; omega
      rcases Int.le_total 0 e with he | he
      · rw [show (-e).toNat = 0 by omega, Nat.pow_zero, Nat.div_one]
        rw [show (e + (u' : Int)).toNat = e.toNat + u' by omega, Nat.pow_add, ← Nat.mul_assoc] at h3
        exact Nat.le_of_mul_le_mul_right h3 (Nat.two_pow_pos _)
      · rw [show e.toNat = 0 by omega, Nat.pow_zero, Nat.mul_one]
        have h4 : m ≤ most * 2 ^ (-e).toNat := by
          have h5 : m * 2 ^ (e + (u' : Int)).toNat ≤ (most * 2 ^ (-e).toNat) * 2 ^ (e + (u' : Int)).toNat := by
            rw [Nat.mul_assoc, ← Nat.pow_add, show (-e).toNat + (e + (u' : Int)).toNat = u' by omega]
            exact h3
          exact Nat.le_of_mul_le_mul_right h5 (Nat.two_pow_pos _)
        calc m / 2 ^ (-e).toNat ≤ (most * 2 ^ (-e).toNat) / 2 ^ (-e).toNat := Nat.div_le_div_right h4
          _ = most := Nat.mul_div_cancel _ (Nat.two_pow_pos _)
    refine ⟨(m * 2 ^ e.toNat) / 2 ^ (-e).toNat, key, ?_⟩
    unfold floatToIntVal
    have ht : (FloatKind.f64.decode x).toInt .zero = some (((m * 2 ^ e.toNat) / 2 ^ (-e).toNat : Nat) : Int) := by
      show (double.read x).toInt .zero = _
      rw [hx]
      simp only [Datum.toInt, Datum.integral, cut_zero, Nat.shiftLeft_eq]
      cases s with
      | false => rw [signed_false]; simp
      | true => rw [signed_true, hmag rfl]; simp
    rw [ht]
    simp only []
    generalize (m * 2 ^ e.toNat) / 2 ^ (-e).toNat = z at *
    rw [if_pos]
    refine ⟨?_, ?_⟩
    · show (-9223372036854775808 : Int) ≤ _; omega
    · show _ ≤ (9223372036854775807 : Int); omega

theorem toInt_FN (n : Nat) (h : n < 9007199254740992) : floatToIntVal .f64 (FN n) .i64 = some (n : Int) := by
  obtain ⟨hp, hd⟩ := dig_eq n h
  unfold floatToIntVal
  have ht : (FloatKind.f64.decode (FN n)).toInt .zero = some (n : Int) := by
    show (double.read (FN n)).toInt .zero = _
    rw [read_FN n h]
    simp only [Datum.toInt, Datum.integral, cut_zero, Nat.shiftLeft_eq, signed_false]
    rw [hd, show (plc n).toNat = 0 by omega]
    simp only [Nat.pow_zero, Nat.mul_one]
    rw [Nat.mul_div_cancel _ (Nat.two_pow_pos _)]
  rw [ht]
  simp only []
  rw [if_pos]
  refine ⟨?_, ?_⟩
  · show (-9223372036854775808 : Int) ≤ _; omega
  · show _ ≤ (9223372036854775807 : Int); omega

theorem inF_FN (n most : Nat) (h : n < 9007199254740992) (hm : most < 9007199254740992) : inF (FN n) most = decide (n ≤ most) := by
  unfold inF
  rw [order_FN_FN n 0 h (by decide), order_FN_FN n most h hm]
  by_cases h1 : n ≤ most
  · have e2 : (some (compare (n : Int) (most : Int)) == some .lt || some (compare (n : Int) (most : Int)) == some .eq) = true := by
      rcases Nat.lt_or_eq_of_le h1 with h2 | h2
      · rw [cmp_lt (Int.ofNat_lt.2 h2)]; rfl
      · subst h2; rw [cmp_eq]; rfl
    have e1 : (some (compare (n : Int) ((0 : Nat) : Int)) == some .gt || some (compare (n : Int) ((0 : Nat) : Int)) == some .eq) = true := by
      rcases Nat.eq_zero_or_pos n with h2 | h2
      · subst h2; rw [cmp_eq]; rfl
      · rw [cmp_gt (Int.ofNat_lt.2 h2)]; rfl
    rw [e1, e2]; simp [h1]
  · rw [cmp_gt (show (most : Int) < (n : Int) by omega)]
    simp [h1]
theorem FN_int (n : Nat) : floatOfInt .f64 (n : Int) = FN n := rfl
theorem FN_32 : FN 4294967295 = 4751297606873776128 := by decide
theorem FN_16 : FN 65536 = 4679240012837945344 := by decide
attribute [irreducible] FN inF
end Go.Proofs.Ytjmjnndmpeeppaa

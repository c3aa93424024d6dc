/- Numbers as bytes, and back: plain numbers. No condition. -/
import Derived.Test.YtkcjdigbfcnhbaaAhEther
namespace Go.Proofs.Ytkcjdigbfcnhbaa
open Go.RowKit
set_option linter.unusedVariables false

set_option maxRecDepth 10000 in
theorem bits_or_byte (s x : Int) (h0 : 0 ≤ s) (h1 : s < 36028797018963968) (x0 : 0 ≤ x) (x1 : x ≤ 255) : bits .or .i64 (s * 256) x = s * 256 + x := by
  have e64 : ((2 ^ 64 : Nat) : Int) = 18446744073709551616 := rfl
  have hN : ((BitVec.ofInt 64 (s * 256) ||| BitVec.ofInt 64 x).toNat : Int) = s * 256 + x := by
    obtain ⟨a, rfl⟩ := Int.eq_ofNat_of_zero_le h0
    obtain ⟨b, rfl⟩ := Int.eq_ofNat_of_zero_le x0
    have ea : (BitVec.ofInt 64 ((a : Int) * 256)).toNat = 2 ^ 8 * a := by
      rw [BitVec.toNat_ofInt, e64, Int.emod_eq_of_lt (by omega) (by omega)]
      omega
    have eb : (BitVec.ofInt 64 ((b : Int))).toNat = b := by
      rw [BitVec.toNat_ofInt, e64, Int.emod_eq_of_lt (by omega) (by omega)]
      omega
    rw [BitVec.toNat_or, ea, eb, ← Nat.two_pow_add_eq_or_of_lt (by omega)]
    omega
  show IntKind.i64.wrap ((BitVec.ofInt 64 (s * 256) ||| BitVec.ofInt 64 x).toNat : Int) = _
  rw [hN, IntKind.wrap_i64]
  omega
def isB (x : Int) : Prop := 0 ≤ x ∧ x ≤ 255
theorem ofS_small {v b : Int} (h0 : 0 ≤ v) (h1 : v < 36028797018963968) (hb : isB b) : ofS v b = v * 256 + b := by
  unfold ofS
  have e : (2 : Int) ^ (min (8 : Int).toNat 64) = 256 := by decide
  rw [e, IntWalk.i64_in (v * 256) (by omega), IntWalk.i64_in b (by have := hb.1; have := hb.2; omega)]
  exact bits_or_byte v b h0 h1 hb.1 hb.2
theorem ofB6 {a b c d e f : Int} (ha : isB a) (hb : isB b) (hc : isB c) (hd : isB d) (he : isB e) (hf : isB f) :
    ofB [a, b, c, d, e, f] = ((((a * 256 + b) * 256 + c) * 256 + d) * 256 + e) * 256 + f := by
  obtain ⟨a0, a1⟩ := ha; obtain ⟨b0, b1⟩ := hb; obtain ⟨c0, c1⟩ := hc; obtain ⟨d0, d1⟩ := hd; obtain ⟨e0, e1⟩ := he; obtain ⟨f0, f1⟩ := hf
  simp only [ofB, List.foldl]
  rw [ofS_small (v := 0) (by omega) (by omega) ⟨a0, a1⟩, ofS_small (by omega) (by omega) ⟨b0, b1⟩, ofS_small (by omega) (by omega) ⟨c0, c1⟩, ofS_small (by omega) (by omega) ⟨d0, d1⟩, ofS_small (by omega) (by omega) ⟨e0, e1⟩, ofS_small (by omega) (by omega) ⟨f0, f1⟩]
  omega
theorem ofB2 {a b : Int} (ha : isB a) (hb : isB b) : ofB [a, b] = a * 256 + b := by
  obtain ⟨a0, a1⟩ := ha; obtain ⟨b0, b1⟩ := hb
  simp only [ofB, List.foldl]
  rw [ofS_small (v := 0) (by omega) (by omega) ⟨a0, a1⟩, ofS_small (by omega) (by omega) ⟨b0, b1⟩]
  omega
theorem byteAt_eq {v : Int} (h : 0 ≤ v) (s : Int) (n : Nat) (hs : s = n) (hn : n ≤ 64) : byteAt v s = v / 2 ^ n % 256 := by
  subst hs
  unfold byteAt
  rw [show min (n : Int).toNat 64 = n by simp; omega, Int.fdiv_eq_ediv_of_nonneg _ (by exact_mod_cast Nat.zero_le (2 ^ n))]
  rw [show ∀ x : Int, IntKind.u8.wrap x = x % 256 from fun x => rfl]
theorem byteAt_isB (v s : Int) : isB (byteAt v s) := by
  unfold byteAt
  rw [show ∀ x : Int, IntKind.u8.wrap x = x % 256 from fun x => rfl]
  constructor <;> omega
theorem bB6_eq {v : Int} (h : 0 ≤ v) : bB6 v = [v / 1099511627776 % 256, v / 4294967296 % 256, v / 16777216 % 256, v / 65536 % 256, v / 256 % 256, v % 256] := by
  unfold bB6
  rw [byteAt_eq h 40 40 rfl (by omega), byteAt_eq h 32 32 rfl (by omega), byteAt_eq h 24 24 rfl (by omega), byteAt_eq h 16 16 rfl (by omega), byteAt_eq h 8 8 rfl (by omega), byteAt_eq h 0 0 rfl (by omega)]
  simp
theorem bB2_eq {v : Int} (h : 0 ≤ v) : bB2 v = [v / 256 % 256, v % 256] := by
  unfold bB2
  rw [byteAt_eq h 8 8 rfl (by omega), byteAt_eq h 0 0 rfl (by omega)]
  simp
theorem ofB_bB6 {v : Int} (h0 : 0 ≤ v) (h1 : v ≤ 281474976710655) : ofB (bB6 v) = v := by
  rw [bB6_eq h0, ofB6 (by constructor <;> omega) (by constructor <;> omega) (by constructor <;> omega) (by constructor <;> omega) (by constructor <;> omega) (by constructor <;> omega)]
  omega
theorem ofB_bB2 {v : Int} (h0 : 0 ≤ v) (h1 : v ≤ 65535) : ofB (bB2 v) = v := by
  rw [bB2_eq h0, ofB2 (by constructor <;> omega) (by constructor <;> omega)]
  omega
theorem bB6_ofB {l : List Int} (hl : l.length = 6) (hb : ∀ x ∈ l, isB x) : bB6 (ofB l) = l ∧ 0 ≤ ofB l ∧ ofB l ≤ 281474976710655 := by
  match l, hl with
  | [a, b, c, d, e, f], _ =>
    simp only [List.forall_mem_cons] at hb
    obtain ⟨ha, hb, hc, hd, he, hf, -⟩ := hb
    rw [ofB6 ha hb hc hd he hf]
    obtain ⟨a0, a1⟩ := ha; obtain ⟨b0, b1⟩ := hb; obtain ⟨c0, c1⟩ := hc; obtain ⟨d0, d1⟩ := hd; obtain ⟨e0, e1⟩ := he; obtain ⟨f0, f1⟩ := hf
    rw [bB6_eq (by omega)]
    refine ⟨?_, by omega, by omega⟩
    simp only [List.cons.injEq, and_true]
    omega
theorem bB2_ofB {l : List Int} (hl : l.length = 2) (hb : ∀ x ∈ l, isB x) : bB2 (ofB l) = l ∧ 0 ≤ ofB l ∧ ofB l ≤ 65535 := by
  match l, hl with
  | [a, b], _ =>
    simp only [List.forall_mem_cons] at hb
    obtain ⟨ha, hb, -⟩ := hb
    rw [ofB2 ha hb]
    obtain ⟨a0, a1⟩ := ha; obtain ⟨b0, b1⟩ := hb
    rw [bB2_eq (by omega)]
    refine ⟨?_, by omega, by omega⟩
    simp only [List.cons.injEq, and_true]
    omega
theorem frB_len (f : Fr) : (frB f).length = 14 + f.x.length := by simp [frB, bB6, bB2]; omega
theorem Fr.ok_iff (f : Fr) : f.ok = true ↔ 0 ≤ f.d ∧ f.d ≤ 281474976710655 ∧ 0 ≤ f.s ∧ f.s ≤ 281474976710655 ∧ 0 ≤ f.t ∧ f.t ≤ 65535 ∧ f.x.length ≤ 1500 := by simp [Fr.ok]
/-- what is written is read -/
theorem parF_frB {f : Fr} (h : f.ok = true) : parF (frB f) = f := by
  obtain ⟨h1, h2, h3, h4, h5, h6, h7⟩ := (f.ok_iff).1 h
  have e1 : (frB f).take 6 = bB6 f.d := by simp [frB, bB6]
  have e2 : ((frB f).drop 6).take 6 = bB6 f.s := by simp [frB, bB6]
  have e3 : ((frB f).drop 12).take 2 = bB2 f.t := by simp [frB, bB6, bB2]
  have e4 : (frB f).drop 14 = f.x := by simp [frB, bB6, bB2]
  unfold parF
  rw [e1, e2, e3, e4, ofB_bB6 h1 h2, ofB_bB6 h3 h4, ofB_bB2 h5 h6]
/-- what is read is written -/
theorem frB_parF {xs : List Int} (h0 : 14 ≤ xs.length) (h1 : xs.length ≤ 1514) (hb : ∀ x ∈ xs, isB x) : frB (parF xs) = xs ∧ (parF xs).ok = true := by
  have t1 := bB6_ofB (l := xs.take 6) (by simp; omega) fun x hx => hb x (List.mem_of_mem_take hx)
  have t2 := bB6_ofB (l := (xs.drop 6).take 6) (by simp; omega) fun x hx => hb x (List.mem_of_mem_drop (List.mem_of_mem_take hx))
  have t3 := bB2_ofB (l := (xs.drop 12).take 2) (by simp; omega) fun x hx => hb x (List.mem_of_mem_drop (List.mem_of_mem_take hx))
  refine ⟨?_, (Fr.ok_iff _).2 ⟨t1.2.1, t1.2.2, t2.2.1, t2.2.2, t3.2.1, t3.2.2, by simp [parF]; omega⟩⟩
  unfold frB parF
  rw [t1.1, t2.1, t3.1]
  have s1 : xs.drop 12 = (xs.drop 12).take 2 ++ xs.drop 14 := by rw [show xs.drop 14 = (xs.drop 12).drop 2 by rw [List.drop_drop], List.take_append_drop]
  have s2 : xs.drop 6 = (xs.drop 6).take 6 ++ xs.drop 12 := by rw [show xs.drop 12 = (xs.drop 6).drop 6 by rw [List.drop_drop], List.take_append_drop]
  rw [← s1, ← s2, List.take_append_drop]
end Go.Proofs.Ytkcjdigbfcnhbaa

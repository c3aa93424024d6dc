/- Contracts and plain laws, one behind the other: AhTcpF, AhTcpG, TcpL2, AhTcpH, AhTcpI. Conditions are said at each. -/
import Derived.Test.YtceohcbokbalhaaGreatPkAG
import Derived.Test.YtceohcbokbalhaaGreatPkAD
import Derived.Test.YtceohcbokbalhaaGreatAhTcpE
/- A connection takes an acknowledgement, data: on data. Conditions: bounds. -/
namespace Go.Proofs.YtceohcbokbalhaaGreat
open Go.RowKit
set_option linter.unusedVariables false
set_option linter.unusedSimpArgs false
set_option maxRecDepth 100000
set_option maxHeartbeats 4000000
theorem segLen_l (m : Sg) (hm : m.data.length ≤ 100000000) : ACallL Tryz.prog 134 [.agg (sgR 0 m)] [.perm] (.val (.int .i64 m.len)) [.perm] := by
  have px := pl_bytes m.data
  have lo : (m.data.map bR).length = m.data.length := by simp
  have w1 := IntWalk.i64_in ((m.data.length : Int) + 1) (by omega)
  have w2 := IntWalk.i64_in ((m.data.length : Int) + 1 + 1) (by omega)
  unfold Sg.len flN
  dsimp only [sgR, sgL]
  refine ACallL.of_ev mixed Tryz.func134 rfl (fun a w => Tryz.call134 a w) (congrArg Array.toList Tryz.results134) Tryz.ntmps134 fun B hB => ?_
  ((conv => whnf); (repeat' ((first | (with_reducible first | refine qif_n ?_ | refine qif_t ‹_› ?_ | refine qif_f ‹_› ?_) | ((with_reducible refine qif_t ?_ ?_); focus decide) | ((with_reducible refine qif_f ?_ ?_); focus decide) | (with_reducible refine And.intro (orderOk_i ?ho) ?_; (case ho => kernel_rfl)) | (with_reducible first | refine qif_i (fun _ => ?_) (fun _ => ?_) | refine frcVs_i ?_ | refine frcRs_i ?_)) <;> (conv => whnf))))
  all_goals (refine qConv.of hB [] [(0, 0)] [] (by rfl) ?_; focus ((conv => whnf); (repeat (refine And.intro ?_ ?_; rotate_left; (conv => whnf))); exact trivial; all_goals (try exact andT)))
  all_goals (simp only [bne, Bool.not_eq_true', Bool.not_eq_false'] at *)
  all_goals (simp only [*, cond_true, cond_false, Bool.true_or, Bool.or_true, Bool.false_or, Bool.or_false, Bool.true_and, Bool.false_and, Bool.and_true, Bool.and_false, Bool.not_true, Bool.not_false])
  all_goals simp only [Int.add_zero]
theorem sgB_t {m : Sg} (h : sgB m = true) : (0 ≤ m.sp ∧ m.sp ≤ 65535) ∧ (0 ≤ m.dp ∧ m.dp ≤ 65535) ∧ (0 ≤ m.seq ∧ m.seq ≤ 4294967295) ∧ (0 ≤ m.ack ∧ m.ack ≤ 4294967295) ∧ (0 ≤ m.fl ∧ m.fl ≤ 63) ∧ (0 ≤ m.win ∧ m.win ≤ 65535) ∧ m.data.length ≤ 1460 := by
  simpa only [sgB, within, Bool.and_eq_true, decide_eq_true_eq] using h
end Go.Proofs.YtceohcbokbalhaaGreat

/- Data come to a connection: on data. Conditions: bounds. -/
namespace Go.Proofs.YtceohcbokbalhaaGreat
open Go.RowKit
set_option linter.unusedVariables false
set_option linter.unusedSimpArgs false
set_option maxRecDepth 100000
set_option maxHeartbeats 4000000
end Go.Proofs.YtceohcbokbalhaaGreat

/- A connection that may be one stays one: plain law. No condition but that what comes may come. -/
namespace Go.Proofs.YtceohcbokbalhaaGreat
open Go.RowKit
set_option linter.unusedVariables false
set_option linter.unusedSimpArgs false
theorem CnI.tm_of {c : Cn} (h : CnI c) {t : Tm} (ht : tmB t = true) (h0 : c.st ≠ 0) : CnI { c with tm := t } :=
  ⟨⟨h.link, h.ip, h.pp, h.port, h.st, h.una, h.nx, h.win, h.len, h.may, ht⟩, ⟨fun e => absurd e h0, h.num.a, h.num.b, h.num.d, h.num.e⟩⟩
theorem dataIn_I {x : Stp} (h : CnI x.c) (m : Sg) (h0 : x.c.st ≠ 0) : CnI (x.dataIn m).c :=
  ⟨⟨h.link, h.ip, h.pp, h.port, h.st, h.una, h.nx, h.win, h.len, reaS_may h.may m.seq m.data, h.tm⟩, ⟨fun e => absurd e h0, h.num.a, h.num.b, h.num.d, h.num.e⟩⟩
theorem dataFin_I {x : Stp} (h : CnI x.c) (m : Sg) (hh : x.c.hears = true) : CnI (x.dataFin m).c := by
  have hs : x.c.st = 2 ∨ x.c.st = 3 ∨ x.c.st = 4 := by simpa [Cn.hears] using hh
  unfold Stp.dataFin
  cases flN m.fl 1 with
  | true => exact h
  | false =>
    simp only [cond_false]
    cases (wadd m.seq m.data.length == x.c.inx) with
    | false => exact h
    | true =>
      simp only [cond_true]
      cases h1 : decide (0 < (x.c.parts.length : Int)) with
      | true => exact h
      | false =>
        simp only [cond_false]
        have hp : x.c.parts = [] := by rw [← List.length_eq_zero_iff]; simp at h1; simp [h1]
        have hF : mayB (wadd x.c.inx 1) x.c.parts = true := by rw [hp]; exact may_next
        cases h2 : (x.c.st == 2) with
        | true =>
          refine ⟨⟨h.link, h.ip, h.pp, h.port, ⟨by show (0 : Int) ≤ 5; decide, by show (5 : Int) ≤ 8; decide⟩, h.una, h.nx, h.win, h.len, hF, h.tm⟩, ⟨fun e => ?_, fun e => ?_, fun e => ?_, fun e => ?_, fun _ => h.num.e (.inl (by simpa using h2))⟩⟩
          · exact absurd e (by show ¬ (5 : Int) = 0; decide)
          · exact absurd e (by show ¬ (5 : Int) = 1; decide)
          · exact absurd e (by show ¬ ((5 : Int) = 4 ∨ (5 : Int) = 8); decide)
          · exact absurd e (by show ¬ ((5 : Int) = 3 ∨ (5 : Int) = 6 ∨ (5 : Int) = 7); decide)
        | false =>
          simp only [cond_false]
          cases h3 : (x.c.st == 3) with
          | true =>
            refine ⟨⟨h.link, h.ip, h.pp, h.port, ⟨by show (0 : Int) ≤ 6; decide, by show (6 : Int) ≤ 8; decide⟩, h.una, h.nx, h.win, h.len, hF, h.tm⟩, ⟨fun e => ?_, fun e => ?_, fun e => ?_, fun _ => h.num.d (.inl (by simpa using h3)), fun e => ?_⟩⟩
            · exact absurd e (by show ¬ (6 : Int) = 0; decide)
            · exact absurd e (by show ¬ (6 : Int) = 1; decide)
            · exact absurd e (by show ¬ ((6 : Int) = 4 ∨ (6 : Int) = 8); decide)
            · exact absurd e (by show ¬ ((6 : Int) = 2 ∨ (6 : Int) = 5); decide)
          | false =>
            have h4 : x.c.st = 4 := by simp at h2 h3; omega
            refine ⟨⟨h.link, h.ip, h.pp, h.port, ⟨by show (0 : Int) ≤ 8; decide, by show (8 : Int) ≤ 8; decide⟩, h.una, h.nx, h.win, h.len, hF, tm20_ok⟩, ⟨fun e => ?_, fun e => ?_, fun _ => h.num.b (.inl h4), fun e => ?_, fun e => ?_⟩⟩
            · exact absurd e (by show ¬ (8 : Int) = 0; decide)
            · exact absurd e (by show ¬ (8 : Int) = 1; decide)
            · exact absurd e (by show ¬ ((8 : Int) = 3 ∨ (8 : Int) = 6 ∨ (8 : Int) = 7); decide)
            · exact absurd e (by show ¬ ((8 : Int) = 2 ∨ (8 : Int) = 5); decide)
theorem data_I {x : Stp} (h : CnI x.c) (m : Sg) : CnI (x.data m).c := by
  unfold Stp.data
  cases hh : x.c.hears with
  | false => exact h
  | true => exact dataFin_I (dataIn_I h m (by intro e; simp [Cn.hears, e] at hh)) m hh
theorem pumpGo_ok : ∀ (k : Nat) {y : Stp}, PumpOk y.c → PumpOk (pumpGo k y).c ∧ (pumpGo k y).c = { y.c with nx := (pumpGo k y).c.nx }
  | 0, y, h => ⟨h, rfl⟩
  | k + 1, y, h => by
    rw [pumpGo]
    by_cases hn : y.c.pumpN ≤ 0
    · rw [if_pos hn]; exact ⟨h, rfl⟩
    · rw [if_neg hn]
      obtain ⟨h1, h2⟩ := pumpGo_ok k (pump1_ok h (by omega))
      exact ⟨h1, h2.trans rfl⟩
theorem pump_I {x : Stp} (h : CnI x.c) (ht : x.c.talks = true) : CnI x.pump.c := by
  obtain ⟨hp, he⟩ := pumpGo_ok x.c.out.length (h.pumpOk ht)
  have hst : x.c.st = 2 ∨ x.c.st = 5 := by simpa [Cn.talks] using ht
  unfold Stp.pump
  obtain ⟨y, hy⟩ : ∃ y, pumpGo x.c.out.length x = y := ⟨_, rfl⟩
  rw [hy] at hp he ⊢
  have hI : CnI y.c := by
    rw [he]
    refine ⟨⟨h.link, h.ip, h.pp, h.port, h.st, h.una, hp.nx, h.win, h.len, h.may, h.tm⟩, ⟨fun e => ?_, fun e => ?_, fun e => ?_, fun e => ?_, fun _ => ?_⟩⟩
    · have e : x.c.st = 0 := e; omega
    · have e : x.c.st = 1 := e; omega
    · have e : x.c.st = 4 ∨ x.c.st = 8 := e; omega
    · have e : x.c.st = 3 ∨ x.c.st = 6 ∨ x.c.st = 7 := e; omega
    · rw [← he]; exact ⟨hp.s0, hp.s1⟩
  have hys : y.c.st = 2 ∨ y.c.st = 5 := by rw [he]; exact hst
  have h2 : CnI y.pump2.c ∧ y.pump2.c.st ≠ 0 := by
    unfold Stp.pump2
    by_cases hc : y.c.closing = true ∧ y.c.sent = y.c.len
    · rw [if_pos hc]
      have hb := wadd_bd y.c.nx 1
      have hlen := hp.len
      have hsn : wdiff (wadd y.c.nx 1) y.c.una = y.c.out.length + 1 := by
        have := hc.2
        unfold Cn.sent Cn.len at this
        rw [wdiff_add (by omega) (by decide) (by omega), this]
      by_cases h2 : y.c.st = 2
      · rw [if_pos h2]
        refine ⟨⟨⟨hI.link, hI.ip, hI.pp, hI.port, ⟨by show (0 : Int) ≤ 3; decide, by show (3 : Int) ≤ 8; decide⟩, hI.una, by show 0 ≤ wadd y.c.nx 1 ∧ wadd y.c.nx 1 ≤ 4294967295; omega, hI.win, hI.len, hI.may, hI.tm⟩, ⟨fun e => ?_, fun e => ?_, fun e => ?_, fun _ => ⟨hc.1, hsn⟩, fun e => ?_⟩⟩, by show ¬ (3 : Int) = 0; decide⟩
        · exact absurd e (by show ¬ (3 : Int) = 0; decide)
        · exact absurd e (by show ¬ (3 : Int) = 1; decide)
        · exact absurd e (by show ¬ ((3 : Int) = 4 ∨ (3 : Int) = 8); decide)
        · exact absurd e (by show ¬ ((3 : Int) = 2 ∨ (3 : Int) = 5); decide)
      · rw [if_neg h2]
        refine ⟨⟨⟨hI.link, hI.ip, hI.pp, hI.port, ⟨by show (0 : Int) ≤ 7; decide, by show (7 : Int) ≤ 8; decide⟩, hI.una, by show 0 ≤ wadd y.c.nx 1 ∧ wadd y.c.nx 1 ≤ 4294967295; omega, hI.win, hI.len, hI.may, hI.tm⟩, ⟨fun e => ?_, fun e => ?_, fun e => ?_, fun _ => ⟨hc.1, hsn⟩, fun e => ?_⟩⟩, by show ¬ (7 : Int) = 0; decide⟩
        · exact absurd e (by show ¬ (7 : Int) = 0; decide)
        · exact absurd e (by show ¬ (7 : Int) = 1; decide)
        · exact absurd e (by show ¬ ((7 : Int) = 4 ∨ (7 : Int) = 8); decide)
        · exact absurd e (by show ¬ ((7 : Int) = 2 ∨ (7 : Int) = 5); decide)
    · rw [if_neg hc]; exact ⟨hI, by omega⟩
  unfold Stp.pump3
  split
  · exact h2.1.tm_of tm3_ok h2.2
  · exact h2.1
end Go.Proofs.YtceohcbokbalhaaGreat

/- A connection takes a segment: on data. Conditions: it may be one, the segment may be one. -/
namespace Go.Proofs.YtceohcbokbalhaaGreat
open Go.RowKit
set_option linter.unusedVariables false
set_option linter.unusedSimpArgs false
set_option maxRecDepth 100000
set_option maxHeartbeats 4000000
end Go.Proofs.YtceohcbokbalhaaGreat

/- A connection takes a segment, is opened: on data. Conditions: lengths. -/
namespace Go.Proofs.YtceohcbokbalhaaGreat
open Go.RowKit
set_option linter.unusedVariables false
set_option linter.unusedSimpArgs false
set_option maxRecDepth 100000
set_option maxHeartbeats 4000000
abbrev noC : AV := .agg [.val (.int .i64 0), .val (.int .i64 0), .val (.int .i64 0), .val (.int .i64 0), .val (.int .i64 0), .val (.int .i64 0), .val (.int .i64 0), .val (.int .i64 0), .val (.slice none 0 0), .val (.int .i64 0), .val (.slice none 0 0), .val (.bool false), .val (.bool false), .val (.int .i64 0), .val (.int .i64 0), .val (.int .i64 0)]
theorem CnI.cnLen {c : Cn} (h : CnI c) : CnLen c := ⟨by have := h.len; omega, ptsMay h.may⟩
end Go.Proofs.YtceohcbokbalhaaGreat

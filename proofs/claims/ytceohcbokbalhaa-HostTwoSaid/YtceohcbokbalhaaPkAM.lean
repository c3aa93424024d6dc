/- Contracts and plain laws, one behind the other: TcpEv2, TcpTri, TcpEv3, HostT, HostK, AhTcpFit, AhHeF, AhHoC, AhTcpS, AhTcpV, AhHoP, AhHoQ. Conditions are said at each. -/
import Derived.Test.YtceohcbokbalhaaPkAL
import Derived.Test.YtceohcbokbalhaaPkAG
import Derived.Test.YtceohcbokbalhaaPkAI
import Derived.Test.YtceohcbokbalhaaPkAJ
import Derived.Test.YtceohcbokbalhaaPkAE
import Derived.Test.YtceohcbokbalhaaPkAD
/- A connection from its first segment to its end, step by step: plain law. Conditions are said at each. -/
namespace Go.Proofs.Ytceohcbokbalhaa
open Go.RowKit
set_option linter.unusedVariables false
set_option linter.unusedSimpArgs false
set_option maxRecDepth 100000
set_option maxHeartbeats 1000000
theorem fl_16_1 : flN 16 1 = true := by decide +kernel
theorem fl_16_2 : flN 16 2 = true := by decide +kernel
theorem fl_16_4 : flN 16 4 = true := by decide +kernel
theorem fl_16_16 : flN 16 16 = false := by decide +kernel
theorem wdiff_d (a i j : Int) (h : (decide (-2147483648 ≤ i - j) && decide (i - j < 2147483648)) = true) : wdiff (wadd a i) (wadd a j) = i - j := by
  rw [Bool.and_eq_true, decide_eq_true_eq, decide_eq_true_eq] at h
  exact wdiff_two a h
theorem woff_d (a i j : Int) (h : (decide (0 ≤ i - j) && decide (i - j < 4294967296)) = true) : woff (wadd a i) (wadd a j) = i - j := by
  rw [Bool.and_eq_true, decide_eq_true_eq, decide_eq_true_eq] at h
  exact woff_wadd a h
abbrev cE (A R : Int) (st u n i : Int) (cl : Bool) (t : Tm) : Cn := ⟨1, 2, 3, 4, st, wadd A u, wadd A n, 1000, [], wadd R i, [], cl, t⟩
def cF (A R : Int) (j : Nat) : Cn := if j < 20 then cE A R 8 2 2 2 true ⟨true, 20 - j, 20, 0⟩ else cE A R 0 2 2 2 true tm0
end Go.Proofs.Ytceohcbokbalhaa

/- A first answer that nobody hears: plain law. No condition. -/
namespace Go.Proofs.Ytceohcbokbalhaa
open Go.RowKit
set_option linter.unusedVariables false
set_option linter.unusedSimpArgs false
set_option maxRecDepth 100000
def wT (n : Nat) : Int := if n = 0 then 3 else if n = 1 then 6 else if n = 2 then 12 else if n = 3 then 24 else 48
def cT (iss : Int) (n : Nat) (g : Int) : Cn := ⟨1, 2, 3, 4, 1, iss, wadd iss 1, 0, [], 10, [], false, ⟨true, wT n - g, wT n, n⟩⟩
end Go.Proofs.Ytceohcbokbalhaa

/- A connection whose peer's window is shut; one that sends more than a segment holds: plain law, step by step. Conditions are said at each. -/
namespace Go.Proofs.Ytceohcbokbalhaa
open Go.RowKit
set_option linter.unusedVariables false
set_option linter.unusedSimpArgs false
set_option maxRecDepth 100000
set_option maxHeartbeats 1000000
end Go.Proofs.Ytceohcbokbalhaa

/- Two that call from one place, a third from another: plain, concrete. No condition. -/
namespace Go.Proofs.Ytceohcbokbalhaa
open Go.RowKit
set_option linter.unusedVariables false
set_option linter.unusedSimpArgs false
set_option maxRecDepth 100000
set_option maxHeartbeats 4000000
theorem t_est0 (L I p q A w N d : Int) : Cn.takes ⟨L, I, p, q, 1, wadd A 0, wadd A 1, w, [], N, [], false, ⟨true, 3, 3, 0⟩⟩ ⟨p, q, N, wadd A 1, 16, w, [d]⟩ = ⟨⟨L, I, p, q, 2, wadd A 1, wadd A 1, w, [], wadd N 1, [], false, ⟨false, 0, 0, 0⟩⟩, [⟨q, p, wadd A 1, wadd N 1, 16, 2048, []⟩], [d]⟩ := by
  have h : reaS N [] N [d] = (wadd N 1, [], [d]) := reaS_in N [d] (by simp)
  have h1 : woff N N = 0 := woff_self N
  simp [Cn.takes, Stp.take, Cn.start, Cn.accepts, Stp.ack, Cn.ackC, Stp.more, Stp.data, Cn.hears, Stp.dataIn, Stp.dataFin, Stp.ackLen, Sg.len, Stp.pumpT, Cn.talks, Stp.pump, pumpGo, Stp.pump1, Stp.pump2, Stp.pump3, Stp.late, Cn.lateB, Cn.sent, Cn.len, Stp.acks, Stp.seg, Cn.shut, Stp.shut, finOut, wdiff_d, woff_d, wdiff_eq, woff_self, wadd_two, fl_16_1, fl_16_2, fl_16_4, fl_16_16, tm0, tmNew, Cn.closes, Cn.pumpN, Cn.sends, Int.min_def, h]
theorem t_send0 (L I p q A N d : Int) : Cn.sends ⟨L, I, p, q, 2, wadd A 1, wadd A 1, 500, [], N, [], false, ⟨false, 0, 0, 0⟩⟩ [d] = ⟨⟨L, I, p, q, 2, wadd A 1, wadd A 2, 500, [d], N, [], false, ⟨true, 3, 3, 0⟩⟩, [⟨q, p, wadd A 1, N, 24, 2048, [d]⟩], []⟩ := by
  simp [Cn.takes, Stp.take, Cn.start, Cn.accepts, Stp.ack, Cn.ackC, Stp.more, Stp.data, Cn.hears, Stp.dataIn, Stp.dataFin, Stp.ackLen, Sg.len, Stp.pumpT, Cn.talks, Stp.pump, pumpGo, Stp.pump1, Stp.pump2, Stp.pump3, Stp.late, Cn.lateB, Cn.sent, Cn.len, Stp.acks, Stp.seg, Cn.shut, Stp.shut, finOut, wdiff_d, woff_d, wdiff_eq, woff_self, wadd_two, fl_16_1, fl_16_2, fl_16_4, fl_16_16, tm0, tmNew, Cn.closes, Cn.pumpN, Cn.sends, Int.min_def]
def tI : Nat → Int
  | 0 => 7
  | 1 => 7
  | _ => 8
def tP : Nat → Int
  | 0 => 1
  | 1 => 2
  | _ => 1
def tS : Nat → Sg
  | 0 => ⟨1, 1883, 0, 0, 2, 500, []⟩
  | 1 => ⟨2, 1883, 100, 0, 2, 500, []⟩
  | _ => ⟨1, 1883, 200, 0, 2, 500, []⟩
def tA : Nat → Sg
  | 0 => ⟨1, 1883, 1, 64001, 16, 500, [97]⟩
  | 1 => ⟨2, 1883, 101, 128001, 16, 500, [98]⟩
  | _ => ⟨1, 1883, 201, 192001, 16, 500, [99]⟩
def tM : Nat → Sg
  | 0 => ⟨1883, 1, 64000, 1, 18, 2048, []⟩
  | 1 => ⟨1883, 2, 128000, 101, 18, 2048, []⟩
  | _ => ⟨1883, 1, 192000, 201, 18, 2048, []⟩
def tK : Nat → Sg
  | 0 => ⟨1883, 1, 64001, 2, 16, 2048, []⟩
  | 1 => ⟨1883, 2, 128001, 102, 16, 2048, []⟩
  | _ => ⟨1883, 1, 192001, 202, 16, 2048, []⟩
def tN : Nat → Sg
  | 0 => ⟨1883, 1, 64001, 2, 24, 2048, [120]⟩
  | 1 => ⟨1883, 2, 128001, 102, 24, 2048, [121]⟩
  | _ => ⟨1883, 1, 192001, 202, 24, 2048, [122]⟩
def tH : Nat → Ho
  | 0 => ⟨[], 0⟩
  | 1 => ⟨[⟨1, 7, 1, 1883, 2, 64001, 64001, 500, [], 2, [], false, ⟨false, 0, 0, 0⟩⟩], 1⟩
  | 2 => ⟨[⟨1, 7, 1, 1883, 2, 64001, 64001, 500, [], 2, [], false, ⟨false, 0, 0, 0⟩⟩, ⟨2, 7, 2, 1883, 2, 128001, 128001, 500, [], 102, [], false, ⟨false, 0, 0, 0⟩⟩], 2⟩
  | _ => ⟨[⟨1, 7, 1, 1883, 2, 64001, 64001, 500, [], 2, [], false, ⟨false, 0, 0, 0⟩⟩, ⟨2, 7, 2, 1883, 2, 128001, 128001, 500, [], 102, [], false, ⟨false, 0, 0, 0⟩⟩, ⟨3, 8, 1, 1883, 2, 192001, 192001, 500, [], 202, [], false, ⟨false, 0, 0, 0⟩⟩], 3⟩
def tX : Nat → Ho
  | 0 => ⟨[⟨1, 7, 1, 1883, 1, 64000, 64001, 500, [], 1, [], false, ⟨true, 3, 3, 0⟩⟩], 1⟩
  | 1 => ⟨[⟨1, 7, 1, 1883, 2, 64001, 64001, 500, [], 2, [], false, ⟨false, 0, 0, 0⟩⟩, ⟨2, 7, 2, 1883, 1, 128000, 128001, 500, [], 101, [], false, ⟨true, 3, 3, 0⟩⟩], 2⟩
  | _ => ⟨[⟨1, 7, 1, 1883, 2, 64001, 64001, 500, [], 2, [], false, ⟨false, 0, 0, 0⟩⟩, ⟨2, 7, 2, 1883, 2, 128001, 128001, 500, [], 102, [], false, ⟨false, 0, 0, 0⟩⟩, ⟨3, 8, 1, 1883, 1, 192000, 192001, 500, [], 201, [], false, ⟨true, 3, 3, 0⟩⟩], 3⟩
def tQ : Nat → Ho
  | 0 => ⟨[⟨1, 7, 1, 1883, 2, 64001, 64001, 500, [], 2, [], false, ⟨false, 0, 0, 0⟩⟩, ⟨2, 7, 2, 1883, 2, 128001, 128001, 500, [], 102, [], false, ⟨false, 0, 0, 0⟩⟩, ⟨3, 8, 1, 1883, 2, 192001, 192001, 500, [], 202, [], false, ⟨false, 0, 0, 0⟩⟩], 3⟩
  | 1 => ⟨[⟨1, 7, 1, 1883, 2, 64001, 64002, 500, [120], 2, [], false, ⟨true, 3, 3, 0⟩⟩, ⟨2, 7, 2, 1883, 2, 128001, 128001, 500, [], 102, [], false, ⟨false, 0, 0, 0⟩⟩, ⟨3, 8, 1, 1883, 2, 192001, 192001, 500, [], 202, [], false, ⟨false, 0, 0, 0⟩⟩], 3⟩
  | 2 => ⟨[⟨1, 7, 1, 1883, 2, 64001, 64002, 500, [120], 2, [], false, ⟨true, 3, 3, 0⟩⟩, ⟨2, 7, 2, 1883, 2, 128001, 128002, 500, [121], 102, [], false, ⟨true, 3, 3, 0⟩⟩, ⟨3, 8, 1, 1883, 2, 192001, 192001, 500, [], 202, [], false, ⟨false, 0, 0, 0⟩⟩], 3⟩
  | _ => ⟨[⟨1, 7, 1, 1883, 2, 64001, 64002, 500, [120], 2, [], false, ⟨true, 3, 3, 0⟩⟩, ⟨2, 7, 2, 1883, 2, 128001, 128002, 500, [121], 102, [], false, ⟨true, 3, 3, 0⟩⟩, ⟨3, 8, 1, 1883, 2, 192001, 192002, 500, [122], 202, [], false, ⟨true, 3, 3, 0⟩⟩], 3⟩
theorem to0 : opens 1 7 64000 ⟨1, 1883, 0, 0, 2, 500, []⟩ = ⟨⟨1, 7, 1, 1883, 1, 64000, 64001, 500, [], 1, [], false, ⟨true, 3, 3, 0⟩⟩, [⟨1883, 1, 64000, 1, 18, 2048, []⟩], []⟩ := by kernel_rfl
theorem tt0 : Ho.take ⟨[], 0⟩ 7 ⟨1, 1883, 0, 0, 2, 500, []⟩ = ⟨⟨[(opens 1 7 64000 ⟨1, 1883, 0, 0, 2, 500, []⟩).c], 1⟩, toS 7 (opens 1 7 64000 ⟨1, 1883, 0, 0, 2, 500, []⟩).out, []⟩ := by kernel_rfl
theorem tu0 : Ho.take (tH 0) (tI 0) (tS 0) = ⟨tX 0, [(tI 0, tM 0)], []⟩ := by
  refine Eq.trans tt0 ?_
  rw [to0]
  rfl
theorem te0 : Cn.takes ⟨1, 7, 1, 1883, 1, 64000, 64001, 500, [], 1, [], false, ⟨true, 3, 3, 0⟩⟩ ⟨1, 1883, 1, 64001, 16, 500, [97]⟩ = ⟨⟨1, 7, 1, 1883, 2, 64001, 64001, 500, [], 2, [], false, ⟨false, 0, 0, 0⟩⟩, [⟨1883, 1, 64001, 2, 16, 2048, []⟩], [97]⟩ := by
  have h := t_est0 1 7 1 1883 64000 500 1 97
  rw [show wadd 64000 0 = 64000 by kernel_rfl, show wadd 64000 1 = 64001 by kernel_rfl, show wadd 1 1 = 2 by kernel_rfl] at h
  exact h
theorem tp0 : Ho.take (tX 0) (tI 0) (tA 0) = ⟨(tX 0).put 0 (Cn.takes ⟨1, 7, 1, 1883, 1, 64000, 64001, 500, [], 1, [], false, ⟨true, 3, 3, 0⟩⟩ ⟨1, 1883, 1, 64001, 16, 500, [97]⟩).c, toS 7 (Cn.takes ⟨1, 7, 1, 1883, 1, 64000, 64001, 500, [], 1, [], false, ⟨true, 3, 3, 0⟩⟩ ⟨1, 1883, 1, 64001, 16, 500, [97]⟩).out, heardL 1 (Cn.takes ⟨1, 7, 1, 1883, 1, 64000, 64001, 500, [], 1, [], false, ⟨true, 3, 3, 0⟩⟩ ⟨1, 1883, 1, 64001, 16, 500, [97]⟩).told (endB 1 (Cn.takes ⟨1, 7, 1, 1883, 1, 64000, 64001, 500, [], 1, [], false, ⟨true, 3, 3, 0⟩⟩ ⟨1, 1883, 1, 64001, 16, 500, [97]⟩).c.st)⟩ := by kernel_rfl
theorem tq0 : Ho.take (tX 0) (tI 0) (tA 0) = ⟨tH 1, [(tI 0, tK 0)], [⟨1, [97], false⟩]⟩ := by
  rw [tp0, te0]
  kernel_rfl
theorem ts0 : Cn.sends ⟨1, 7, 1, 1883, 2, 64001, 64001, 500, [], 2, [], false, ⟨false, 0, 0, 0⟩⟩ [120] = ⟨⟨1, 7, 1, 1883, 2, 64001, 64002, 500, [120], 2, [], false, ⟨true, 3, 3, 0⟩⟩, [⟨1883, 1, 64001, 2, 24, 2048, [120]⟩], []⟩ := by
  have h := t_send0 1 7 1 1883 64000 2 120
  rw [show wadd 64000 1 = 64001 by kernel_rfl, show wadd 64000 2 = 64002 by kernel_rfl] at h
  exact h
theorem to1 : opens 2 7 128000 ⟨2, 1883, 100, 0, 2, 500, []⟩ = ⟨⟨2, 7, 2, 1883, 1, 128000, 128001, 500, [], 101, [], false, ⟨true, 3, 3, 0⟩⟩, [⟨1883, 2, 128000, 101, 18, 2048, []⟩], []⟩ := by kernel_rfl
theorem tt1 : Ho.take ⟨[⟨1, 7, 1, 1883, 2, 64001, 64001, 500, [], 2, [], false, ⟨false, 0, 0, 0⟩⟩], 1⟩ 7 ⟨2, 1883, 100, 0, 2, 500, []⟩ = ⟨⟨[⟨1, 7, 1, 1883, 2, 64001, 64001, 500, [], 2, [], false, ⟨false, 0, 0, 0⟩⟩, (opens 2 7 128000 ⟨2, 1883, 100, 0, 2, 500, []⟩).c], 2⟩, toS 7 (opens 2 7 128000 ⟨2, 1883, 100, 0, 2, 500, []⟩).out, []⟩ := by kernel_rfl
theorem tu1 : Ho.take (tH 1) (tI 1) (tS 1) = ⟨tX 1, [(tI 1, tM 1)], []⟩ := by
  refine Eq.trans tt1 ?_
  rw [to1]
  rfl
theorem te1 : Cn.takes ⟨2, 7, 2, 1883, 1, 128000, 128001, 500, [], 101, [], false, ⟨true, 3, 3, 0⟩⟩ ⟨2, 1883, 101, 128001, 16, 500, [98]⟩ = ⟨⟨2, 7, 2, 1883, 2, 128001, 128001, 500, [], 102, [], false, ⟨false, 0, 0, 0⟩⟩, [⟨1883, 2, 128001, 102, 16, 2048, []⟩], [98]⟩ := by
  have h := t_est0 2 7 2 1883 128000 500 101 98
  rw [show wadd 128000 0 = 128000 by kernel_rfl, show wadd 128000 1 = 128001 by kernel_rfl, show wadd 101 1 = 102 by kernel_rfl] at h
  exact h
theorem tp1 : Ho.take (tX 1) (tI 1) (tA 1) = ⟨(tX 1).put 1 (Cn.takes ⟨2, 7, 2, 1883, 1, 128000, 128001, 500, [], 101, [], false, ⟨true, 3, 3, 0⟩⟩ ⟨2, 1883, 101, 128001, 16, 500, [98]⟩).c, toS 7 (Cn.takes ⟨2, 7, 2, 1883, 1, 128000, 128001, 500, [], 101, [], false, ⟨true, 3, 3, 0⟩⟩ ⟨2, 1883, 101, 128001, 16, 500, [98]⟩).out, heardL 2 (Cn.takes ⟨2, 7, 2, 1883, 1, 128000, 128001, 500, [], 101, [], false, ⟨true, 3, 3, 0⟩⟩ ⟨2, 1883, 101, 128001, 16, 500, [98]⟩).told (endB 1 (Cn.takes ⟨2, 7, 2, 1883, 1, 128000, 128001, 500, [], 101, [], false, ⟨true, 3, 3, 0⟩⟩ ⟨2, 1883, 101, 128001, 16, 500, [98]⟩).c.st)⟩ := by kernel_rfl
theorem tq1 : Ho.take (tX 1) (tI 1) (tA 1) = ⟨tH 2, [(tI 1, tK 1)], [⟨2, [98], false⟩]⟩ := by
  rw [tp1, te1]
  kernel_rfl
theorem ts1 : Cn.sends ⟨2, 7, 2, 1883, 2, 128001, 128001, 500, [], 102, [], false, ⟨false, 0, 0, 0⟩⟩ [121] = ⟨⟨2, 7, 2, 1883, 2, 128001, 128002, 500, [121], 102, [], false, ⟨true, 3, 3, 0⟩⟩, [⟨1883, 2, 128001, 102, 24, 2048, [121]⟩], []⟩ := by
  have h := t_send0 2 7 2 1883 128000 102 121
  rw [show wadd 128000 1 = 128001 by kernel_rfl, show wadd 128000 2 = 128002 by kernel_rfl] at h
  exact h
theorem to2 : opens 3 8 192000 ⟨1, 1883, 200, 0, 2, 500, []⟩ = ⟨⟨3, 8, 1, 1883, 1, 192000, 192001, 500, [], 201, [], false, ⟨true, 3, 3, 0⟩⟩, [⟨1883, 1, 192000, 201, 18, 2048, []⟩], []⟩ := by kernel_rfl
theorem tt2 : Ho.take ⟨[⟨1, 7, 1, 1883, 2, 64001, 64001, 500, [], 2, [], false, ⟨false, 0, 0, 0⟩⟩, ⟨2, 7, 2, 1883, 2, 128001, 128001, 500, [], 102, [], false, ⟨false, 0, 0, 0⟩⟩], 2⟩ 8 ⟨1, 1883, 200, 0, 2, 500, []⟩ = ⟨⟨[⟨1, 7, 1, 1883, 2, 64001, 64001, 500, [], 2, [], false, ⟨false, 0, 0, 0⟩⟩, ⟨2, 7, 2, 1883, 2, 128001, 128001, 500, [], 102, [], false, ⟨false, 0, 0, 0⟩⟩, (opens 3 8 192000 ⟨1, 1883, 200, 0, 2, 500, []⟩).c], 3⟩, toS 8 (opens 3 8 192000 ⟨1, 1883, 200, 0, 2, 500, []⟩).out, []⟩ := by kernel_rfl
theorem tu2 : Ho.take (tH 2) (tI 2) (tS 2) = ⟨tX 2, [(tI 2, tM 2)], []⟩ := by
  refine Eq.trans tt2 ?_
  rw [to2]
  rfl
theorem te2 : Cn.takes ⟨3, 8, 1, 1883, 1, 192000, 192001, 500, [], 201, [], false, ⟨true, 3, 3, 0⟩⟩ ⟨1, 1883, 201, 192001, 16, 500, [99]⟩ = ⟨⟨3, 8, 1, 1883, 2, 192001, 192001, 500, [], 202, [], false, ⟨false, 0, 0, 0⟩⟩, [⟨1883, 1, 192001, 202, 16, 2048, []⟩], [99]⟩ := by
  have h := t_est0 3 8 1 1883 192000 500 201 99
  rw [show wadd 192000 0 = 192000 by kernel_rfl, show wadd 192000 1 = 192001 by kernel_rfl, show wadd 201 1 = 202 by kernel_rfl] at h
  exact h
theorem tp2 : Ho.take (tX 2) (tI 2) (tA 2) = ⟨(tX 2).put 2 (Cn.takes ⟨3, 8, 1, 1883, 1, 192000, 192001, 500, [], 201, [], false, ⟨true, 3, 3, 0⟩⟩ ⟨1, 1883, 201, 192001, 16, 500, [99]⟩).c, toS 8 (Cn.takes ⟨3, 8, 1, 1883, 1, 192000, 192001, 500, [], 201, [], false, ⟨true, 3, 3, 0⟩⟩ ⟨1, 1883, 201, 192001, 16, 500, [99]⟩).out, heardL 3 (Cn.takes ⟨3, 8, 1, 1883, 1, 192000, 192001, 500, [], 201, [], false, ⟨true, 3, 3, 0⟩⟩ ⟨1, 1883, 201, 192001, 16, 500, [99]⟩).told (endB 1 (Cn.takes ⟨3, 8, 1, 1883, 1, 192000, 192001, 500, [], 201, [], false, ⟨true, 3, 3, 0⟩⟩ ⟨1, 1883, 201, 192001, 16, 500, [99]⟩).c.st)⟩ := by kernel_rfl
theorem tq2 : Ho.take (tX 2) (tI 2) (tA 2) = ⟨tH 3, [(tI 2, tK 2)], [⟨3, [99], false⟩]⟩ := by
  rw [tp2, te2]
  kernel_rfl
theorem ts2 : Cn.sends ⟨3, 8, 1, 1883, 2, 192001, 192001, 500, [], 202, [], false, ⟨false, 0, 0, 0⟩⟩ [122] = ⟨⟨3, 8, 1, 1883, 2, 192001, 192002, 500, [122], 202, [], false, ⟨true, 3, 3, 0⟩⟩, [⟨1883, 1, 192001, 202, 24, 2048, [122]⟩], []⟩ := by
  have h := t_send0 3 8 1 1883 192000 202 122
  rw [show wadd 192000 1 = 192001 by kernel_rfl, show wadd 192000 2 = 192002 by kernel_rfl] at h
  exact h
theorem t_take (i : Nat) (h : i < 3) : (tH i).take (tI i) (tS i) = ⟨tX i, [(tI i, tM i)], []⟩ := by
  rcases (by omega : i = 0 ∨ i = 1 ∨ i = 2) with rfl | rfl | rfl
  · exact tu0
  · exact tu1
  · exact tu2
theorem t_up (i : Nat) (h : i < 3) : (tX i).take (tI i) (tA i) = ⟨tH (i + 1), [(tI i, tK i)], [⟨(i : Int) + 1, [97 + (i : Int)], false⟩]⟩ := by
  rcases (by omega : i = 0 ∨ i = 1 ∨ i = 2) with rfl | rfl | rfl
  · exact tq0
  · exact tq1
  · exact tq2
theorem t_seg (i : Nat) (h : i < 3) : tS i = ⟨tP i, 1883, 100 * i, 0, 2, 500, []⟩ := by
  rcases (by omega : i = 0 ∨ i = 1 ∨ i = 2) with rfl | rfl | rfl <;> kernel_rfl
theorem t_ans (i : Nat) (h : i < 3) : tA i = ⟨tP i, 1883, 100 * i + 1, wadd (tM i).seq 1, 16, 500, [97 + (i : Int)]⟩ := by
  rcases (by omega : i = 0 ∨ i = 1 ∨ i = 2) with rfl | rfl | rfl <;> kernel_rfl
theorem sgB_tS (i : Nat) (h : i < 3) : sgB (tS i) = true := by
  rcases (by omega : i = 0 ∨ i = 1 ∨ i = 2) with rfl | rfl | rfl <;> kernel_rfl
theorem sgB_tA (i : Nat) (h : i < 3) : sgB (tA i) = true := by
  rcases (by omega : i = 0 ∨ i = 1 ∨ i = 2) with rfl | rfl | rfl <;> kernel_rfl
theorem tI_in (i : Nat) (h : i < 3) : 0 ≤ tI i ∧ tI i ≤ 4294967295 := by
  rcases (by omega : i = 0 ∨ i = 1 ∨ i = 2) with rfl | rfl | rfl <;> decide
theorem t_H (i : Nat) (h : i < 4) : HoI (tH i) := (hostB_iff _).1 (by rcases (by omega : i = 0 ∨ i = 1 ∨ i = 2 ∨ i = 3) with rfl | rfl | rfl | rfl <;> kernel_rfl)
theorem t_X (i : Nat) (h : i < 3) : HoI (tX i) := (hostB_iff _).1 (by rcases (by omega : i = 0 ∨ i = 1 ∨ i = 2) with rfl | rfl | rfl <;> kernel_rfl)
theorem t_Q (i : Nat) (h : i < 4) : HoI (tQ i) := (hostB_iff _).1 (by rcases (by omega : i = 0 ∨ i = 1 ∨ i = 2 ∨ i = 3) with rfl | rfl | rfl | rfl <;> kernel_rfl)
theorem tv0 : (tQ 0).withS 1 (fun c => c.sends [120]) = ⟨(tQ 0).put 0 (Cn.sends ⟨1, 7, 1, 1883, 2, 64001, 64001, 500, [], 2, [], false, ⟨false, 0, 0, 0⟩⟩ [120]).c, toS 7 (Cn.sends ⟨1, 7, 1, 1883, 2, 64001, 64001, 500, [], 2, [], false, ⟨false, 0, 0, 0⟩⟩ [120]).out, []⟩ := by kernel_rfl
theorem tw0 : (tQ 0).withS 1 (fun c => c.sends [120]) = ⟨tQ 1, [(tI 0, tN 0)], []⟩ := by
  rw [tv0, ts0]
  kernel_rfl
theorem tx0 : (tQ 0).withE 1 (fun c => c.sendE [120]) = 0 := by kernel_rfl
theorem tv1 : (tQ 1).withS 2 (fun c => c.sends [121]) = ⟨(tQ 1).put 1 (Cn.sends ⟨2, 7, 2, 1883, 2, 128001, 128001, 500, [], 102, [], false, ⟨false, 0, 0, 0⟩⟩ [121]).c, toS 7 (Cn.sends ⟨2, 7, 2, 1883, 2, 128001, 128001, 500, [], 102, [], false, ⟨false, 0, 0, 0⟩⟩ [121]).out, []⟩ := by kernel_rfl
theorem tw1 : (tQ 1).withS 2 (fun c => c.sends [121]) = ⟨tQ 2, [(tI 1, tN 1)], []⟩ := by
  rw [tv1, ts1]
  kernel_rfl
theorem tx1 : (tQ 1).withE 2 (fun c => c.sendE [121]) = 0 := by kernel_rfl
theorem tv2 : (tQ 2).withS 3 (fun c => c.sends [122]) = ⟨(tQ 2).put 2 (Cn.sends ⟨3, 8, 1, 1883, 2, 192001, 192001, 500, [], 202, [], false, ⟨false, 0, 0, 0⟩⟩ [122]).c, toS 8 (Cn.sends ⟨3, 8, 1, 1883, 2, 192001, 192001, 500, [], 202, [], false, ⟨false, 0, 0, 0⟩⟩ [122]).out, []⟩ := by kernel_rfl
theorem tw2 : (tQ 2).withS 3 (fun c => c.sends [122]) = ⟨tQ 3, [(tI 2, tN 2)], []⟩ := by
  rw [tv2, ts2]
  kernel_rfl
theorem tx2 : (tQ 2).withE 3 (fun c => c.sendE [122]) = 0 := by kernel_rfl
theorem t_send (i : Nat) (h : i < 3) : (tQ i).withS ((i : Int) + 1) (fun c => c.sends [120 + (i : Int)]) = ⟨tQ (i + 1), [(tI i, tN i)], []⟩ := by
  rcases (by omega : i = 0 ∨ i = 1 ∨ i = 2) with rfl | rfl | rfl
  · exact tw0
  · exact tw1
  · exact tw2
theorem t_sendE (i : Nat) (h : i < 3) : (tQ i).withE ((i : Int) + 1) (fun c => c.sendE [120 + (i : Int)]) = 0 := by
  rcases (by omega : i = 0 ∨ i = 1 ∨ i = 2) with rfl | rfl | rfl
  · exact tx0
  · exact tx1
  · exact tx2
theorem t_dp (i : Nat) (h : i < 3) : (tN i).dp = tP i := by
  rcases (by omega : i = 0 ∨ i = 1 ∨ i = 2) with rfl | rfl | rfl <;> rfl
def tZ : Ho := ⟨[⟨1, 7, 1, 1883, 2, 64001, 64002, 500, [120], 2, [], false, ⟨true, 3, 3, 0⟩⟩, ⟨3, 8, 1, 1883, 2, 192001, 192002, 500, [122], 202, [], false, ⟨true, 3, 3, 0⟩⟩], 3⟩
theorem t_rst : Ho.take (tQ 3) 7 ⟨2, 1883, 102, 0, 4, 0, []⟩ = ⟨tZ, [], [⟨2, [], true⟩]⟩ := by kernel_rfl
theorem t_Z : HoI tZ := (hostB_iff _).1 (by kernel_rfl)
theorem t_none : tZ.withE 2 (fun c => c.sendE [113]) = 3 := by kernel_rfl
theorem t_one : tZ.withE 1 (fun c => c.sendE [113]) = 0 := by kernel_rfl
end Go.Proofs.Ytceohcbokbalhaa

/- What a host does with a segment: who stays: plain law. Conditions: what may be. -/
namespace Go.Proofs.Ytceohcbokbalhaa
open Go.RowKit
set_option linter.unusedVariables false
set_option linter.unusedSimpArgs false
set_option maxRecDepth 100000
end Go.Proofs.Ytceohcbokbalhaa

/- A segment made to fit a connection: on data. Conditions: lengths. -/
namespace Go.Proofs.Ytceohcbokbalhaa
open Go.RowKit
set_option linter.unusedVariables false
set_option linter.unusedSimpArgs false
set_option maxRecDepth 100000
set_option maxHeartbeats 4000000
end Go.Proofs.Ytceohcbokbalhaa

/- A segment made to fit a host's connection: on data. Conditions: lengths. -/
namespace Go.Proofs.Ytceohcbokbalhaa
open Go.RowKit
set_option linter.unusedVariables false
set_option linter.unusedSimpArgs false
set_option maxRecDepth 100000
set_option maxHeartbeats 4000000
end Go.Proofs.Ytceohcbokbalhaa

/- Hosts copied, compared; segments with whom they are for compared: on data. Conditions: lengths. -/
namespace Go.Proofs.Ytceohcbokbalhaa
open Go.RowKit
set_option linter.unusedVariables false
set_option linter.unusedSimpArgs false
set_option maxRecDepth 100000
set_option maxHeartbeats 4000000
section
variable {L I F : Prs} {h : Hp} {o p d o' p' d' r : Nat}
end
end Go.Proofs.Ytceohcbokbalhaa

/- The page's connection sends what it may: on data. Conditions: bounds. -/
namespace Go.Proofs.Ytceohcbokbalhaa
open Go.RowKit
set_option linter.unusedVariables false
set_option linter.unusedSimpArgs false
set_option maxRecDepth 100000
set_option maxHeartbeats 4000000
end Go.Proofs.Ytceohcbokbalhaa

/- The page's connection sends, is closed, aborted, opened: on data. Conditions: lengths. -/
namespace Go.Proofs.Ytceohcbokbalhaa
open Go.RowKit
set_option linter.unusedVariables false
set_option linter.unusedSimpArgs false
set_option maxRecDepth 100000
set_option maxHeartbeats 4000000
end Go.Proofs.Ytceohcbokbalhaa

/- What the page says may be a host, where it finds a connection: on data. Conditions: lengths. -/
namespace Go.Proofs.Ytceohcbokbalhaa
open Go.RowKit
set_option linter.unusedVariables false
set_option linter.unusedSimpArgs false
set_option maxRecDepth 100000
set_option maxHeartbeats 4000000
end Go.Proofs.Ytceohcbokbalhaa

/- The page's host: a connection is found, a step is put in its place: on data. Conditions: lengths. -/
namespace Go.Proofs.Ytceohcbokbalhaa
open Go.RowKit
set_option linter.unusedVariables false
set_option linter.unusedSimpArgs false
set_option maxRecDepth 100000
set_option maxHeartbeats 4000000
section
variable {L I F : Prs} {h : Hp}
theorem Ren.glR {b b' sz : Nat} {rows rows' : List (List AV)} (hb : I.has b b' = true) (hr : RowsRen (qOf L I F) h rows rows') : Ren (qOf L I F) h (.glist b sz rows) (.glist b' sz rows') :=
  .glist _ _ _ _ _ ((Prs.has_iff I _ _).1 hb) hr.1 hr.2.1 hr.2.2
end
end Go.Proofs.Ytceohcbokbalhaa

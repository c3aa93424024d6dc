/- Contracts and plain laws, one behind the other: TcpEv3, AhShut, AhGreat. Conditions are said at each. -/
import Derived.Test.YthkjiihphdpagaaPkAK
import Derived.Test.YthkjiihphdpagaaPkAG
import Derived.Test.YthkjiihphdpagaaPkAE
/- A connection whose peer's window is shut; one that sends more than a segment holds: plain law, step by step. Conditions are said at each. -/
namespace Go.Proofs.Ythkjiihphdpagaa
open Go.RowKit
set_option linter.unusedVariables false
set_option linter.unusedSimpArgs false
set_option maxRecDepth 100000
set_option maxHeartbeats 1000000
abbrev cG (A : Int) (st u n w : Int) (o : List Int) (t : Tm) : Cn := ⟨1, 2, 3, 4, st, wadd A u, wadd A n, w, o, 10, [], false, t⟩
abbrev sG (A n fl : Int) (d : List Int) : Sg := ⟨4, 3, wadd A n, 10, fl, 2048, d⟩
theorem w10 : wadd 9 1 = 10 := by kernel_rfl
theorem reaS_10 (s : Int) : reaS 10 [] s [] = (10, [], []) := reaS_none _ _ (by decide)
theorem woff_10 : woff 10 10 = 0 := woff_self 10
theorem g_open (A w : Int) : opens 1 2 (wadd A 0) ⟨3, 4, 9, 0, 2, w, []⟩ = ⟨cG A 1 0 1 w [] (tmNew 3), [sG A 0 18 []], []⟩ := by
  simp [opens, Cn.start, Stp.seg, wadd_two, w10]
theorem g_est (A w : Int) : (cG A 1 0 1 w [] (tmNew 3)).takes ⟨3, 4, 10, wadd A 1, 16, w, []⟩ = ⟨cG A 2 1 1 w [] tm0, [], []⟩ := by
  simp [Cn.takes, Stp.take, Cn.start, Cn.accepts, Stp.ack, Cn.ackC, Stp.more, Stp.data, Cn.hears, Stp.dataIn, Stp.dataFin, Stp.ackLen, Sg.len, Stp.pumpT, Cn.talks, Stp.pump, pumpGo, Stp.pump1, Stp.pump2, Stp.pump3, Stp.late, Cn.lateB, Cn.sent, Cn.len, Stp.acks, Stp.seg, Cn.shut, Stp.shut, finOut, wdiff_d, woff_d, wdiff_eq, woff_self, wadd_two, reaS_10, woff_10, fl_16_1, fl_16_2, fl_16_4, fl_16_16, tm0, tmNew, Cn.closes, Cn.pumpN, Cn.sends, Int.min_def]
theorem s_send (A : Int) : (cG A 2 1 1 0 [] tm0).sends [104, 101, 108, 108, 111] = ⟨cG A 2 1 1 0 [104, 101, 108, 108, 111] (tmNew 3), [], []⟩ := by
  simp [Cn.takes, Stp.take, Cn.start, Cn.accepts, Stp.ack, Cn.ackC, Stp.more, Stp.data, Cn.hears, Stp.dataIn, Stp.dataFin, Stp.ackLen, Sg.len, Stp.pumpT, Cn.talks, Stp.pump, pumpGo, Stp.pump1, Stp.pump2, Stp.pump3, Stp.late, Cn.lateB, Cn.sent, Cn.len, Stp.acks, Stp.seg, Cn.shut, Stp.shut, finOut, wdiff_d, woff_d, wdiff_eq, woff_self, wadd_two, reaS_10, woff_10, fl_16_1, fl_16_2, fl_16_4, fl_16_16, tm0, tmNew, Cn.closes, Cn.pumpN, Cn.sends, Int.min_def]
theorem s_t1 (A : Int) : (cG A 2 1 1 0 [104, 101, 108, 108, 111] (tmNew 3)).ticks = ⟨cG A 2 1 1 0 [104, 101, 108, 108, 111] ⟨true, 2, 3, 0⟩, [], []⟩ := by
  simp [Cn.ticks, tmRings, tmBeat, tmNew, Cn.start, Int.max_def]
theorem s_t2 (A : Int) : (cG A 2 1 1 0 [104, 101, 108, 108, 111] ⟨true, 2, 3, 0⟩).ticks = ⟨cG A 2 1 1 0 [104, 101, 108, 108, 111] ⟨true, 1, 3, 0⟩, [], []⟩ := by
  simp [Cn.ticks, tmRings, tmBeat, tmNew, Cn.start, Int.max_def]
theorem s_t3 (A : Int) : (cG A 2 1 1 0 [104, 101, 108, 108, 111] ⟨true, 1, 3, 0⟩).ticks = ⟨cG A 2 1 2 0 [104, 101, 108, 108, 111] ⟨true, 6, 6, 1⟩, [sG A 1 24 [104]], []⟩ := by
  simp [Cn.ticks, tmRings, tmBeat, tmBack, tmNew, Cn.start, Stp.again, Cn.sent, wdiff_eq, wadd_two, Int.max_def, Int.min_def]
theorem s_last (A : Int) : (cG A 2 1 2 0 [104, 101, 108, 108, 111] ⟨true, 6, 6, 1⟩).takes ⟨3, 4, 10, wadd A 2, 16, 100, []⟩ = ⟨cG A 2 2 6 100 [101, 108, 108, 111] (tmNew 3), [sG A 2 24 [101, 108, 108, 111]], []⟩ := by
  simp [Cn.takes, Stp.take, Cn.start, Cn.accepts, Stp.ack, Cn.ackC, Stp.more, Stp.data, Cn.hears, Stp.dataIn, Stp.dataFin, Stp.ackLen, Sg.len, Stp.pumpT, Cn.talks, Stp.pump, pumpGo, Stp.pump1, Stp.pump2, Stp.pump3, Stp.late, Cn.lateB, Cn.sent, Cn.len, Stp.acks, Stp.seg, Cn.shut, Stp.shut, finOut, wdiff_d, woff_d, wdiff_eq, woff_self, wadd_two, reaS_10, woff_10, fl_16_1, fl_16_2, fl_16_4, fl_16_16, tm0, tmNew, Cn.closes, Cn.pumpN, Cn.sends, Int.min_def]
theorem sgB_w3 (A n fl w : Int) (h1 : 0 ≤ fl ∧ fl ≤ 63) (h2 : 0 ≤ w ∧ w ≤ 65535) : sgB ⟨3, 4, 10, wadd A n, fl, w, []⟩ = true := by
  have b := waddW A n
  simp only [sgB, within, Bool.and_eq_true, decide_eq_true_eq]
  exact ⟨by omega, by omega, by omega, b, h1, h2, by simp⟩
theorem fitsG (A st u n w b fl w2 : Int) (o : List Int) (t : Tm) (h1 : 0 ≤ fl ∧ fl ≤ 63) (h2 : 0 ≤ w2 ∧ w2 ≤ 65535) : fitsB (cG A st u n w o t) ⟨3, 4, 10, wadd A b, fl, w2, []⟩ = true := by
  unfold fitsB
  rw [sgB_w3 A b fl w2 h1 h2]
  rfl
theorem pumpOk_g {A st u n w : Int} {o : List Int} {t : Tm} (h : (decide (-2147483648 ≤ n - u) && decide (n - u < 2147483648)) = true) (h0 : 0 ≤ n - u) (h1 : n - u ≤ o.length) (h2 : o.length ≤ 8192) (h3 : 0 ≤ w ∧ w ≤ 65535) : PumpOk (cG A st u n w o t) := by
  have e : Cn.sent (cG A st u n w o t) = n - u := wdiff_d A n u h
  exact ⟨waddW A u, waddW A n, by rw [e]; exact h0, by rw [e]; exact h1, h2, h3⟩
theorem b_pump (A : Int) (o : List Int) (h : o.length = 1618) : Stp.pump ⟨cG A 2 1 1 543 o tm0, [], []⟩ = ⟨cG A 2 1 544 543 o (tmNew 3), [sG A 1 24 (o.take 536), sG A 537 24 ((o.drop 536).take 7)], []⟩ := by
  have e0 : (Stp.mk (cG A 2 1 1 543 o tm0) [] []).pump1 = ⟨cG A 2 1 537 543 o tm0, [sG A 1 24 (o.take 536)], []⟩ := by simp [Stp.pump1, Cn.pumpN, Cn.sent, Cn.len, wdiff_d, wdiff_eq, wadd_two, Int.min_def, h]
  have e1 : (Stp.mk (cG A 2 1 537 543 o tm0) [sG A 1 24 (o.take 536)] []).pump1 = ⟨cG A 2 1 544 543 o tm0, [sG A 1 24 (o.take 536), sG A 537 24 ((o.drop 536).take 7)], []⟩ := by simp [Stp.pump1, Cn.pumpN, Cn.sent, Cn.len, wdiff_d, wdiff_eq, wadd_two, Int.min_def, h]
  have g0 := pumpGo_step (y := ⟨cG A 2 1 1 543 o tm0, [], []⟩) (pumpOk_g (by decide) (by decide) (by omega) (by omega) (by omega)) (by simp [Stp.pump1, Cn.pumpN, Cn.sent, Cn.len, wdiff_d, wdiff_eq, wadd_two, Int.min_def, h])
  have g1 := pumpGo_step (y := ⟨cG A 2 1 537 543 o tm0, [sG A 1 24 (o.take 536)], []⟩) (pumpOk_g (by decide) (by decide) (by omega) (by omega) (by omega)) (by simp [Stp.pump1, Cn.pumpN, Cn.sent, Cn.len, wdiff_d, wdiff_eq, wadd_two, Int.min_def, h])
  rw [e0] at g0
  rw [e1] at g1
  unfold Stp.pump
  rw [g0, g1, pumpGo_end (by simp [Stp.pump1, Cn.pumpN, Cn.sent, Cn.len, wdiff_d, wdiff_eq, wadd_two, Int.min_def, h])]
  simp [Stp.pump2, Stp.pump3, Stp.pump1, Cn.pumpN, Cn.sent, Cn.len, wdiff_d, wdiff_eq, wadd_two, Int.min_def, h, tm0]
theorem b_send (A : Int) (o : List Int) (h : o.length = 1618) : (cG A 2 1 1 543 [] tm0).sends o = ⟨cG A 2 1 544 543 o (tmNew 3), [sG A 1 24 (o.take 536), sG A 537 24 ((o.drop 536).take 7)], []⟩ := by
  unfold Cn.sends Cn.start
  rw [← b_pump A o h]
  rfl
theorem b_pump2 (A : Int) (o : List Int) (h : o.length = 1075) : Stp.pump ⟨cG A 2 544 544 5000 o tm0, [], []⟩ = ⟨cG A 2 544 1619 5000 o (tmNew 3), [sG A 544 24 (o.take 536), sG A 1080 24 ((o.drop 536).take 536), sG A 1616 24 ((o.drop 1072).take 3)], []⟩ := by
  have e0 : (Stp.mk (cG A 2 544 544 5000 o tm0) [] []).pump1 = ⟨cG A 2 544 1080 5000 o tm0, [sG A 544 24 (o.take 536)], []⟩ := by simp [Stp.pump1, Cn.pumpN, Cn.sent, Cn.len, wdiff_d, wdiff_eq, wadd_two, Int.min_def, h]
  have e1 : (Stp.mk (cG A 2 544 1080 5000 o tm0) [sG A 544 24 (o.take 536)] []).pump1 = ⟨cG A 2 544 1616 5000 o tm0, [sG A 544 24 (o.take 536), sG A 1080 24 ((o.drop 536).take 536)], []⟩ := by simp [Stp.pump1, Cn.pumpN, Cn.sent, Cn.len, wdiff_d, wdiff_eq, wadd_two, Int.min_def, h]
  have e2 : (Stp.mk (cG A 2 544 1616 5000 o tm0) [sG A 544 24 (o.take 536), sG A 1080 24 ((o.drop 536).take 536)] []).pump1 = ⟨cG A 2 544 1619 5000 o tm0, [sG A 544 24 (o.take 536), sG A 1080 24 ((o.drop 536).take 536), sG A 1616 24 ((o.drop 1072).take 3)], []⟩ := by simp [Stp.pump1, Cn.pumpN, Cn.sent, Cn.len, wdiff_d, wdiff_eq, wadd_two, Int.min_def, h]
  have g0 := pumpGo_step (y := ⟨cG A 2 544 544 5000 o tm0, [], []⟩) (pumpOk_g (by decide) (by decide) (by omega) (by omega) (by omega)) (by simp [Stp.pump1, Cn.pumpN, Cn.sent, Cn.len, wdiff_d, wdiff_eq, wadd_two, Int.min_def, h])
  have g1 := pumpGo_step (y := ⟨cG A 2 544 1080 5000 o tm0, [sG A 544 24 (o.take 536)], []⟩) (pumpOk_g (by decide) (by decide) (by omega) (by omega) (by omega)) (by simp [Stp.pump1, Cn.pumpN, Cn.sent, Cn.len, wdiff_d, wdiff_eq, wadd_two, Int.min_def, h])
  have g2 := pumpGo_step (y := ⟨cG A 2 544 1616 5000 o tm0, [sG A 544 24 (o.take 536), sG A 1080 24 ((o.drop 536).take 536)], []⟩) (pumpOk_g (by decide) (by decide) (by omega) (by omega) (by omega)) (by simp [Stp.pump1, Cn.pumpN, Cn.sent, Cn.len, wdiff_d, wdiff_eq, wadd_two, Int.min_def, h])
  rw [e0] at g0
  rw [e1] at g1
  rw [e2] at g2
  unfold Stp.pump
  rw [g0, g1, g2, pumpGo_end (by simp [Stp.pump1, Cn.pumpN, Cn.sent, Cn.len, wdiff_d, wdiff_eq, wadd_two, Int.min_def, h])]
  simp [Stp.pump2, Stp.pump3, Stp.pump1, Cn.pumpN, Cn.sent, Cn.len, wdiff_d, wdiff_eq, wadd_two, Int.min_def, h, tm0]
theorem b_take (A : Int) (o : List Int) (h : o.length = 1618) : (cG A 2 1 544 543 o (tmNew 3)).takes ⟨3, 4, 10, wadd A 544, 16, 5000, []⟩ = ⟨cG A 2 544 1619 5000 (o.drop 543) (tmNew 3), [sG A 544 24 ((o.drop 543).take 536), sG A 1080 24 (((o.drop 543).drop 536).take 536), sG A 1616 24 (((o.drop 543).drop 1072).take 3)], []⟩ := by
  have hp := b_pump2 A (o.drop 543) (by simp; omega)
  have e : (cG A 2 1 544 543 o (tmNew 3)).takes ⟨3, 4, 10, wadd A 544, 16, 5000, []⟩ = (Stp.pump ⟨cG A 2 544 544 5000 (o.drop 543) tm0, [], []⟩).late := by
    simp [Cn.takes, Stp.take, Cn.start, Cn.accepts, Stp.ack, Cn.ackC, Stp.more, Stp.data, Cn.hears, Stp.dataIn, Stp.dataFin, Stp.ackLen, Sg.len, Stp.pumpT, Cn.talks, finOut, wdiff_d, woff_d, wdiff_eq, woff_self, wadd_two, reaS_10, woff_10, fl_16_1, fl_16_2, fl_16_4, fl_16_16, Int.min_def, h]
  rw [e, hp]
  simp [Stp.late, Cn.lateB, tmNew]
end Go.Proofs.Ythkjiihphdpagaa

/- A connection whose peer's window is shut: the law on data. Condition: lengths that an argument may have. -/
namespace Go.Proofs.Ythkjiihphdpagaa
open Go.RowKit
set_option linter.unusedVariables false
set_option linter.unusedSimpArgs false
set_option maxRecDepth 100000
set_option maxHeartbeats 4000000
theorem shut_l (t : Talk) : ACallL Try.prog 7 [.agg (tkR t)] [.perm] (.val (.bool true)) [.perm] := by
  have pa := pl_bytes t.a
  have pb := pl_bytes t.b
  have pc := pl_nums t.lost
  have pd := pl_nums t.wins
  obtain ⟨iss, hiss, hw⟩ := word_of t.iss
  have z1 := wadd_zero hw
  have hr1 : wadd (IntKind.i64.wrap (IntKind.u32.wrap t.iss)) 1 = wadd iss 1 := by rw [hiss]
  have hr2 : wadd (IntKind.i64.wrap (IntKind.u32.wrap t.iss)) 2 = wadd iss 2 := by rw [hiss]
  have hop : openB 1 2 iss ⟨3, 4, 9, 0, 2, 0, []⟩ = true := openE hw (by omega) (by omega)
  have h0 := (open_I hop).1
  have cO := tcpOpenA_l 1 2 iss ⟨3, 4, 9, 0, 2, 0, []⟩ hop
  have eO := g_open iss 0
  rw [z1] at eO
  rw [eO] at cO h0
  have cO' : ∀ r, r = iss → ACallL Try.prog 9 [.val (.int .i64 1), .val (.int .i64 2), .val (.int .i64 r), .agg (sgR 0 ⟨3, 4, 9, 0, 2, 0, []⟩)] [.perm] (stA ⟨cG iss 1 0 1 0 [] (tmNew 3), [sG iss 0 18 []], []⟩) stH := fun r e => e ▸ cO
  clear cO
  have cT := tcpTake_l (cG iss 1 0 1 0 [] (tmNew 3)) ⟨3, 4, 10, wadd iss 1, 16, 0, []⟩ ((cnB_iff _).2 h0) (fitsG iss _ _ _ _ 1 16 0 _ _ (by omega) (by omega))
  have h1 : CnI ((cG iss 1 0 1 0 [] (tmNew 3)).takes ⟨3, 4, 10, wadd iss 1, 16, 0, []⟩).c := take_I (x := (cG iss 1 0 1 0 [] (tmNew 3)).start) h0 (sgB_w3 iss 1 16 0 (by omega) (by omega))
  rw [g_est] at cT h1
  have cT' : ∀ r, r = wadd iss 1 → ACallL Try.prog 10 [.agg (cnR 0 (cG iss 1 0 1 0 [] (tmNew 3))), .agg (sgR 0 ⟨3, 4, 10, r, 16, 0, []⟩)] [.perm] (.tup [.agg (cnG 1 2 3 (cG iss 2 1 1 0 [] tm0)), .glist 4 7 (([] : List Sg).map (sgG 5)), gL 6 [], .val (.int .i64 0)]) [.perm, .uniq, .uniq, .uniq, .uniq, .uniq, .uniq] := fun r e => e ▸ cT
  clear cT
  have cS := tcpSend_l (cG iss 2 1 1 0 [] tm0) [104, 101, 108, 108, 111] ((cnB_iff _).2 h1) rfl
  have h2 := (send_I (xs := [104, 101, 108, 108, 111]) h1 rfl).1
  rw [s_send] at cS h2
  have cK1 := tcpTick_l (cG iss 2 1 1 0 [104, 101, 108, 108, 111] (tmNew 3)) ((cnB_iff _).2 h2)
  have h3 := (tick_I h2).1
  rw [s_t1] at cK1 h3
  have cK2 := tcpTick_l (cG iss 2 1 1 0 [104, 101, 108, 108, 111] ⟨true, 2, 3, 0⟩) ((cnB_iff _).2 h3)
  have h4 := (tick_I h3).1
  rw [s_t2] at cK2 h4
  have cK3 := tcpTick_l (cG iss 2 1 1 0 [104, 101, 108, 108, 111] ⟨true, 1, 3, 0⟩) ((cnB_iff _).2 h4)
  have h5 := (tick_I h4).1
  rw [s_t3] at cK3 h5
  have cL := tcpTake_l (cG iss 2 1 2 0 [104, 101, 108, 108, 111] ⟨true, 6, 6, 1⟩) ⟨3, 4, 10, wadd iss 2, 16, 100, []⟩ ((cnB_iff _).2 h5) (fitsG iss _ _ _ _ 2 16 100 _ _ (by omega) (by omega))
  have h6 : CnI ((cG iss 2 1 2 0 [104, 101, 108, 108, 111] ⟨true, 6, 6, 1⟩).takes ⟨3, 4, 10, wadd iss 2, 16, 100, []⟩).c := take_I (x := (cG iss 2 1 2 0 [104, 101, 108, 108, 111] ⟨true, 6, 6, 1⟩).start) h5 (sgB_w3 iss 2 16 100 (by omega) (by omega))
  rw [s_last] at cL h6
  have cL' : ∀ r, r = wadd iss 2 → ACallL Try.prog 10 [.agg (cnR 0 (cG iss 2 1 2 0 [104, 101, 108, 108, 111] ⟨true, 6, 6, 1⟩)), .agg (sgR 0 ⟨3, 4, 10, r, 16, 100, []⟩)] [.perm] (.tup [.agg (cnG 1 2 3 (cG iss 2 2 6 100 [101, 108, 108, 111] (tmNew 3))), .glist 4 7 ([sG iss 2 24 [101, 108, 108, 111]].map (sgG 5)), gL 6 [], .val (.int .i64 0)]) [.perm, .uniq, .uniq, .uniq, .uniq, .uniq, .uniq] := fun r e => e ▸ cL
  clear cL
  have cM := refConn_l (cG iss 2 2 6 100 [101, 108, 108, 111] (tmNew 3)) h6.cnLen
  rw [(cnB_iff _).2 h6] at cM
  have q1 : (wadd iss 1 != wadd (IntKind.i64.wrap (IntKind.u32.wrap t.iss)) 1) = false := by rw [hr1]; simp
  have q2 : (wadd iss 2 == wadd (IntKind.i64.wrap (IntKind.u32.wrap t.iss)) 2) = true := by rw [hr2]; simp
  dsimp only [stA, cnR, cnG, cnL, sgR, sgG, sgL, List.map_nil, List.map_cons] at cO' cT' cS cK1 cK2 cK3 cL' cM
  have hs1 : (strOf [104]).toList = [104] := by decide +kernel
  have hs2 : (strOf [101, 108, 108, 111]).toList = [101, 108, 108, 111] := by decide +kernel
  dsimp only [tkR]
  refine ACallL.of_ev mixed Try.func7 rfl (fun a w => Try.call7 a w) (congrArg Array.toList Try.results7) Try.ntmps7 fun B hB => ?_
  ((conv => whnf); (repeat' ((first | (with_reducible first | refine qif_n ?_ | refine qif_t ‹_› ?_ | refine qif_f ‹_› ?_) | ((with_reducible refine qif_t ?_ ?_); focus decide) | ((with_reducible refine qif_f ?_ ?_); focus decide) | (with_reducible refine And.intro (orderOk_i ?ho) ?_; (case ho => kernel_rfl)) | ((with_reducible refine qif_t ?_ ?_); focus (simp []; done)) | ((with_reducible refine qif_f ?_ ?_); focus (simp []; done)) | (with_reducible first | refine qif_i (fun _ => ?_) (fun _ => ?_) | refine frcVs_i ?_ | refine frcRs_i ?_) | ((with_reducible refine qCall.pure (num16_l _) ?_ ?_ ?_ ?_); rotate_left 4; exact trivial; exact plT; exact plT) | ((with_reducible refine qCall.pure (refAdd_l _ _) ?_ ?_ ?_ ?_); rotate_left 4; exact trivial; exact plT; exact plT) | (((with_reducible refine qCall.of ((cO' _ hiss)) [] [(0, 0)] [] [(1, 2), (2, 3), (3, 4), (4, 5), (5, 6)] [(2, .uniq), (3, .uniq), (4, .uniq), (5, .uniq), (6, .uniq)] (.tup [.agg (cnG 2 3 4 (cG iss 1 0 1 0 [] (tmNew 3))), .glist 5 7 [sgG 6 (sG iss 0 18 [])], .val (.int .i64 0)]) ?hk ?_); (case hk => rfl); (conv => whnf); (repeat (refine And.intro ?_ ?_; exact sideT; (conv => whnf))); (fail_if_success (with_reducible first | refine And.intro (eqv_i ?_) ?_ | refine And.intro (ren_i ?_) ?_)))) | (((with_reducible refine qCall.of ((cT' _ hr1)) [] [(0, 0), (0, 2), (0, 3), (0, 4)] [] [(1, 8), (2, 9), (3, 10), (4, 11), (5, 12), (6, 13)] [(8, .uniq), (9, .uniq), (10, .uniq), (11, .uniq), (12, .uniq), (13, .uniq)] (.tup [.agg (cnG 8 9 10 (cG iss 2 1 1 0 [] tm0)), .glist 11 7 [], gL 13 [], .val (.int .i64 0)]) ?hk ?_); (case hk => rfl); (conv => whnf); (repeat (refine And.intro ?_ ?_; exact sideT; (conv => whnf))); (fail_if_success (with_reducible first | refine And.intro (eqv_i ?_) ?_ | refine And.intro (ren_i ?_) ?_)))) | (refine qOpen.frz rfl rfl rfl rfl rfl ?_) | (((with_reducible refine qCall.of (cS) [] [(0, 0), (0, 8), (0, 9), (0, 10), (0, 15)] [] [(1, 16), (2, 17), (3, 18), (4, 19), (5, 20)] [(16, .uniq), (17, .uniq), (18, .uniq), (19, .uniq), (20, .uniq)] (.tup [.agg (cnG 16 17 18 (cG iss 2 1 1 0 [104, 101, 108, 108, 111] (tmNew 3))), .glist 19 7 [], .val (.int .i64 0)]) ?hk ?_); (case hk => rfl); (conv => whnf); (repeat (refine And.intro ?_ ?_; exact sideT; (conv => whnf))); (fail_if_success (with_reducible first | refine And.intro (eqv_i ?_) ?_ | refine And.intro (ren_i ?_) ?_)))) | (refine qAW.unroll mixed 5 ?_) | (((with_reducible refine qCall.of (cK1) [] [(0, 0), (0, 16), (0, 17), (0, 18)] [] [(1, 21), (2, 22), (3, 23), (4, 24), (5, 25)] [(21, .uniq), (22, .uniq), (23, .uniq), (24, .uniq), (25, .uniq)] (.tup [.agg (cnG 21 22 23 (cG iss 2 1 1 0 [104, 101, 108, 108, 111] ⟨true, 2, 3, 0⟩)), .glist 24 7 [], .val (.int .i64 0)]) ?hk ?_); (case hk => rfl); (conv => whnf); (repeat (refine And.intro ?_ ?_; exact sideT; (conv => whnf))); (fail_if_success (with_reducible first | refine And.intro (eqv_i ?_) ?_ | refine And.intro (ren_i ?_) ?_)))) | (((with_reducible refine qCall.of (cK2) [] [(0, 0), (0, 21), (0, 22), (0, 23)] [] [(1, 26), (2, 27), (3, 28), (4, 29), (5, 30)] [(26, .uniq), (27, .uniq), (28, .uniq), (29, .uniq), (30, .uniq)] (.tup [.agg (cnG 26 27 28 (cG iss 2 1 1 0 [104, 101, 108, 108, 111] ⟨true, 1, 3, 0⟩)), .glist 29 7 [], .val (.int .i64 0)]) ?hk ?_); (case hk => rfl); (conv => whnf); (repeat (refine And.intro ?_ ?_; exact sideT; (conv => whnf))); (fail_if_success (with_reducible first | refine And.intro (eqv_i ?_) ?_ | refine And.intro (ren_i ?_) ?_)))) | (((with_reducible refine qCall.of (cK3) [] [(0, 0), (0, 26), (0, 27), (0, 28)] [] [(1, 31), (2, 32), (3, 33), (4, 34), (5, 35)] [(31, .uniq), (32, .uniq), (33, .uniq), (34, .uniq), (35, .uniq)] (.tup [.agg (cnG 31 32 33 (cG iss 2 1 2 0 [104, 101, 108, 108, 111] ⟨true, 6, 6, 1⟩)), .glist 34 7 [sgG 35 (sG iss 1 24 [104])], .val (.int .i64 0)]) ?hk ?_); (case hk => rfl); (conv => whnf); (repeat (refine And.intro ?_ ?_; exact sideT; (conv => whnf))); (fail_if_success (with_reducible first | refine And.intro (eqv_i ?_) ?_ | refine And.intro (ren_i ?_) ?_)))) | (refine qOpen.str [104] rfl rfl rfl rfl rfl rfl ?_) | (refine qOpen.str [101, 108, 108, 111] rfl rfl rfl rfl rfl rfl ?_) | (refine qOpen.nes rfl rfl rfl ?_) | (refine qOpen.eqs rfl rfl rfl ?_) | (((with_reducible refine qCall.of ((cL' _ hr2)) [] [(0, 0), (0, 31), (0, 32), (0, 33)] [] [(1, 36), (2, 37), (3, 38), (4, 39), (5, 40), (6, 41)] [(36, .uniq), (37, .uniq), (38, .uniq), (39, .uniq), (40, .uniq), (41, .uniq)] (.tup [.agg (cnG 36 37 38 (cG iss 2 2 6 100 [101, 108, 108, 111] (tmNew 3))), .glist 39 7 [sgG 40 (sG iss 2 24 [101, 108, 108, 111])], gL 41 [], .val (.int .i64 0)]) ?hk ?_); (case hk => rfl); (conv => whnf); (repeat (refine And.intro ?_ ?_; exact sideT; (conv => whnf))); (fail_if_success (with_reducible first | refine And.intro (eqv_i ?_) ?_ | refine And.intro (ren_i ?_) ?_)))) | (((with_reducible refine qCall.reads (cM) [(0, 0), (0, 36), (0, 37), (0, 38)] [] ?hk ?_); (case hk => rfl); (conv => whnf); (repeat (refine And.intro ?_ ?_; exact sideT; (conv => whnf))); (fail_if_success (with_reducible first | refine And.intro (eqv_i ?_) ?_ | refine And.intro (ren_i ?_) ?_)))) | ((with_reducible refine qCall.pure (wakes16_l) ?_ ?_ ?_ ?_); rotate_left 4; exact trivial; exact plT; exact plT)) <;> (conv => whnf))))
  all_goals first | ((refine qConv.of hB [] [(0, 0)] [] (by rfl) ?_; focus ((conv => whnf); (repeat (refine And.intro ?_ ?_; rotate_left; (conv => whnf))); exact trivial; all_goals (try exact andT))); all_goals rfl; done) | (exfalso; simp_all; done)
end Go.Proofs.Ythkjiihphdpagaa

/- More than a segment holds: the law on data. Condition: lengths that an argument may have. -/
namespace Go.Proofs.Ythkjiihphdpagaa
open Go.RowKit
set_option linter.unusedVariables false
set_option linter.unusedSimpArgs false
set_option maxRecDepth 100000
set_option maxHeartbeats 4000000
theorem bytes_ren2 {q : Rn} {h : Hp} {rows : List (List AV)} {xs : List Int} (e : rows = xs.map bR) : RowsRen q h rows (xs.map bR) := RowsRen.vals e (by simp [AV.isVal])
theorem mkS' {P : Program} {o : Oper} {sl : List AV} {h : List Own} {t e : TypeId} {x y : Operand} {k k' : IntKind} {n : Int} {n0 nb : Nat} {z : List Value} (nm : Nat) (row : List AV) (rows : List (List AV)) (ho : o.op = .makeSlice t x y) (hx : ae sl x = .val (.int k n)) (hy : ae sl y = .val (.int k' n)) (he : elemT P t = some e) (hs : sizeT P e = some n0) (hb : bytesT P e = some nb) (hz : zeroT P e = some z)
    (h0 : 0 < n0 ∧ z.length = n0) (hn : 0 ≤ n ∧ (nb : Int) * n ≤ 281474976710656 ∧ n ≤ 9223372036854775807) (hm : h.length = nm) (hr : z.map .val = row) (hrs : List.replicate n.toNat row = rows) : aop P o sl h = some ⟨.sl nm 0 n.toNat, [(nm, .unused)], [(nm, .live ⟨n0, e, rows⟩)]⟩ := by
  subst hm hr hrs
  exact mkS ho hx hy he hs hb hz h0 hn
theorem great_l (t : Talk) : ACallL Try.prog 3 [.agg (tkR t)] [.perm] (.val (.bool true)) [.perm] := by
  have pa := pl_bytes t.a
  have pb := pl_bytes t.b
  have pc := pl_nums t.lost
  have pd := pl_nums t.wins
  obtain ⟨iss, hiss, hw⟩ := word_of t.iss
  have z1 := wadd_zero hw
  have hr1 : wadd (IntKind.i64.wrap (IntKind.u32.wrap t.iss)) 1 = wadd iss 1 := by rw [hiss]
  have hr2 : wadd (IntKind.i64.wrap (IntKind.u32.wrap t.iss)) 544 = wadd iss 544 := by rw [hiss]
  obtain ⟨N, hN⟩ : ∃ N : Nat, N = 1618 := ⟨_, rfl⟩
  obtain ⟨z0, hz0, hz0l⟩ : ∃ z0 : List Int, List.replicate 1618 [AV.val (.int .u8 0)] = z0.map bR ∧ z0.length = 1618 := ⟨List.replicate 1618 0, by rw [List.map_replicate], by simp⟩
  dsimp only [tkR]
  refine ACallL.of_ev mixed Try.func3 rfl (fun a w => Try.call3 a w) (congrArg Array.toList Try.results3) Try.ntmps3 fun B hB => ?_
  ((conv => whnf); (repeat' ((first | (with_reducible first | refine qif_n ?_ | refine qif_t ‹_› ?_ | refine qif_f ‹_› ?_) | ((with_reducible refine qif_t ?_ ?_); focus decide) | ((with_reducible refine qif_f ?_ ?_); focus decide) | (with_reducible refine And.intro (orderOk_i ?ho) ?_; (case ho => kernel_rfl)) | (with_reducible first | refine qif_i (fun _ => ?_) (fun _ => ?_) | refine frcVs_i ?_ | refine frcRs_i ?_)) <;> (conv => whnf))))
  generalize hM : (8192 : Int) = M
  obtain ⟨zz, hzz, hzl⟩ : ∃ zz : List Int, List.replicate M.toNat [AV.val (.int .u8 0)] = zz.map bR ∧ zz.length = 8192 := ⟨List.replicate M.toNat 0, by rw [List.map_replicate], by rw [← hM]; simp⟩
  have hzt : ((zz.map bR).drop 0).take M.toNat = zz.map bR := by rw [List.drop_zero, List.take_of_length_le (by simp [hzl, ← hM])]
  refine qAW.loopE mixed (X := Nat × List Int) (fun x => slotsOf 147 [(3, .val (.int .i64 iss)), (4, .sl 2 0 N), (5, .val (.int .i64 x.1))])
    (fun x => [.perm, .unused, .live ⟨1, 5, x.2.map bR⟩]) (fun x => x.1 ≤ 1618 ∧ x.2.length = 1618) (fun x => 1618 - x.1) (0, z0) ⟨Nat.zero_le _, hz0l⟩ ?_ ?_
  · subst hN
    have w := hz0l
    have hset := hz0
    (refine qConv.of hB [(2, 2)] [(0, 0)] [] (by rfl) ?_; focus ((conv => whnf); (repeat (refine And.intro ?_ ?_; rotate_left; (conv => whnf))); exact trivial; all_goals (try exact andT)))
    all_goals (try simp only [hiss])
    all_goals (try (first | rfl | exact bytes_ren2 hz0 | exact bytes_ren2 hset | exact segs_gg rfl _ | exact parts_gg rfl _ | (refine RowsRen.one ?_; (repeat (refine Cells.cons ?_ ?_; focus (first | exact .val _ | exact Ren.gg rfl _ | exact Ren.ll rfl _ | exact Ren.pgl rfl rfl _ | exact Ren.vnil _ _ | fail))); exact Cells.nil) | (simp [w]; done)))
  · rintro E ⟨k, bb⟩ ⟨hk, hbl⟩ hE
    dsimp only at hk hbl ⊢
    have w := IntWalk.i64_in (k + 1) (by omega)
    by_cases hlt : k < N
    · obtain ⟨c, hc⟩ : ∃ c, (bb.map bR)[k]? = some [.val (.int .u8 c)] := ⟨bb[k]'(by omega), by simp [show k < bb.length by omega]⟩
      have e1 : 0 + (k : Int).toNat = k := by omega
      have hset : (bb.map bR).set k [.val (.int .u8 (IntKind.u8.wrap ((k : Int).tmod 251)))] = (bb.set k (IntKind.u8.wrap ((k : Int).tmod 251))).map bR := by rw [List.map_set]
      subst hE
      ((conv => whnf); (repeat' ((first | (with_reducible first | refine qif_n ?_ | refine qif_t ‹_› ?_ | refine qif_f ‹_› ?_) | ((with_reducible refine qif_t ?_ ?_); focus decide) | ((with_reducible refine qif_f ?_ ?_); focus decide) | (with_reducible refine And.intro (orderOk_i ?ho) ?_; (case ho => kernel_rfl)) | ((with_reducible refine qif_t ?_ ?_); focus (simp [hlt]; done)) | ((with_reducible refine qif_f ?_ ?_); focus (simp [hlt]; done)) | (with_reducible first | refine qif_i (fun _ => ?_) (fun _ => ?_) | refine frcVs_i ?_ | refine frcRs_i ?_) | (refine qCase_i (remN rfl rfl rfl (by decide)) ?_) | (refine qCase_i (idxS rfl rfl rfl rfl rfl rfl rfl rfl (by omega)) ?_) | (refine qCase_i (stR' rfl rfl rfl rfl (by with_reducible exact e1) hc rfl rfl (Nat.le_of_ble_eq_true rfl)) ?_)) <;> (conv => whnf))))
      refine ⟨(k + 1, bb.set k (IntKind.u8.wrap ((k : Int).tmod 251))), ⟨by dsimp only; omega, by simp [hbl]⟩, by dsimp only; omega, ?_⟩
      (refine qConv.of hB [(2, 2)] [(0, 0)] [] (by rfl) ?_; focus ((conv => whnf); (repeat (refine And.intro ?_ ?_; rotate_left; (conv => whnf))); exact trivial; all_goals (try exact andT)))
      all_goals (try simp only [hiss])
      all_goals (try (first | rfl | exact bytes_ren2 hz0 | exact bytes_ren2 hset | exact segs_gg rfl _ | exact parts_gg rfl _ | (refine RowsRen.one ?_; (repeat (refine Cells.cons ?_ ?_; focus (first | exact .val _ | exact Ren.gg rfl _ | exact Ren.ll rfl _ | exact Ren.pgl rfl rfl _ | exact Ren.vnil _ _ | fail))); exact Cells.nil) | (simp [w]; done)))
    · have hNb : N = bb.length := by omega
      subst hNb
      have hop : openB 1 2 iss ⟨3, 4, 9, 0, 2, 543, []⟩ = true := openE hw (by omega) (by omega)
      have h0 := (open_I hop).1
      have cO := tcpOpenA_l 1 2 iss ⟨3, 4, 9, 0, 2, 543, []⟩ hop
      have eO := g_open iss 543
      rw [z1] at eO
      rw [eO] at cO h0
      have cT := tcpTake_l (cG iss 1 0 1 543 [] (tmNew 3)) ⟨3, 4, 10, wadd iss 1, 16, 543, []⟩ ((cnB_iff _).2 h0) (fitsG iss _ _ _ _ 1 16 543 _ _ (by omega) (by omega))
      have h1 : CnI ((cG iss 1 0 1 543 [] (tmNew 3)).takes ⟨3, 4, 10, wadd iss 1, 16, 543, []⟩).c := take_I (x := (cG iss 1 0 1 543 [] (tmNew 3)).start) h0 (sgB_w3 iss 1 16 543 (by omega) (by omega))
      rw [g_est] at cT h1
      have he : (cG iss 2 1 1 543 [] tm0).sendE bb = 0 := by
        unfold Cn.sendE
        have : decide (8192 - (([] : List Int).length : Int) < (bb.length : Int)) = false := by simp [hbl]
        show (bif (true && !false) then (bif decide (8192 - (([] : List Int).length : Int) < (bb.length : Int)) then 5 else 0) else 6) = 0
        rw [this]; rfl
      have cS := tcpSend_l (cG iss 2 1 1 543 [] tm0) bb ((cnB_iff _).2 h1) he
      have h2 := (send_I h1 he).1
      rw [b_send iss bb hbl] at cS h2
      have cL := tcpTake_l (cG iss 2 1 544 543 bb (tmNew 3)) ⟨3, 4, 10, wadd iss 544, 16, 5000, []⟩ ((cnB_iff _).2 h2) (fitsG iss _ _ _ _ 544 16 5000 _ _ (by omega) (by omega))
      have h3 : CnI ((cG iss 2 1 544 543 bb (tmNew 3)).takes ⟨3, 4, 10, wadd iss 544, 16, 5000, []⟩).c := take_I (x := (cG iss 2 1 544 543 bb (tmNew 3)).start) h2 (sgB_w3 iss 544 16 5000 (by omega) (by omega))
      rw [b_take iss bb hbl] at cL h3
      have l1 : (bb.take 536).length = 536 := by simp; omega
      have l2 : ((bb.drop 536).take 7).length = 7 := by simp; omega
      have l3 : ((bb.drop 543).take 536).length = 536 := by simp; omega
      have l4 : (((bb.drop 543).drop 536).take 536).length = 536 := by simp; omega
      have l5 : (((bb.drop 543).drop 1072).take 3).length = 3 := by simp; omega
      have lo : (bb.drop 543).length = 1075 := by simp; omega
      generalize bb.take 536 = d1 at cS l1
      generalize (bb.drop 536).take 7 = d2 at cS l2
      generalize (bb.drop 543).take 536 = d3 at cL l3
      generalize ((bb.drop 543).drop 536).take 536 = d4 at cL l4
      generalize ((bb.drop 543).drop 1072).take 3 = d5 at cL l5
      generalize bb.drop 543 = oo at cL h3 lo
      have he5 : (cG iss 2 544 1619 5000 oo (tmNew 3)).sendE zz = 5 := by
        unfold Cn.sendE
        have : decide (8192 - (oo.length : Int) < (zz.length : Int)) = true := by rw [decide_eq_true_eq, lo, hzl]; decide
        show (bif (true && !false) then (bif decide (8192 - (oo.length : Int) < (zz.length : Int)) then 5 else 0) else 6) = 5
        rw [this]; rfl
      have cN := tcpSend_no (cG iss 2 544 1619 5000 oo (tmNew 3)) zz h3.cnLen (by omega) (.inr (by rw [he5]; decide))
      rw [errB, (cnB_iff _).2 h3, cond_true, he5] at cN
      have q1 : (((d1.map bR).length : Int) != 536) = false := by simp [l1]
      have q2 : (((d2.map bR).length : Int) != 7) = false := by simp [l2]
      have q3 : (((d3.map bR).length : Int) != 536) = false := by simp [l3]
      have q4 : (((d4.map bR).length : Int) != 536) = false := by simp [l4]
      have q5 : (((d5.map bR).length : Int) != 3) = false := by simp [l5]
      have cO' : ∀ r, r = iss → ACallL Try.prog 9 [.val (.int .i64 1), .val (.int .i64 2), .val (.int .i64 r), .agg (sgR 0 ⟨3, 4, 9, 0, 2, 543, []⟩)] [.perm] (stA ⟨cG iss 1 0 1 543 [] (tmNew 3), [sG iss 0 18 []], []⟩) stH := fun r e => e ▸ cO
      clear cO
      have pbb := pl_bytes bb
      have pzz := pl_bytes zz
      dsimp only [stA, cnR, cnG, cnL, sgR, sgG, sgL, List.map_nil, List.map_cons] at cO' cT cS cL cN
      subst hE
      ((conv => whnf); (repeat' ((first | (with_reducible first | refine qif_n ?_ | refine qif_t ‹_› ?_ | refine qif_f ‹_› ?_) | ((with_reducible refine qif_t ?_ ?_); focus decide) | ((with_reducible refine qif_f ?_ ?_); focus decide) | (with_reducible refine And.intro (orderOk_i ?ho) ?_; (case ho => kernel_rfl)) | ((with_reducible refine qif_t ?_ ?_); focus (simp [hlt]; done)) | ((with_reducible refine qif_f ?_ ?_); focus (simp [hlt]; done)) | (with_reducible first | refine qif_i (fun _ => ?_) (fun _ => ?_) | refine frcVs_i ?_ | refine frcRs_i ?_) | ((with_reducible refine qCall.pure (num16_l _) ?_ ?_ ?_ ?_); rotate_left 4; exact trivial; exact plT; exact plT) | ((with_reducible refine qCall.pure (refAdd_l _ _) ?_ ?_ ?_ ?_); rotate_left 4; exact trivial; exact plT; exact plT) | (((with_reducible refine qCall.of ((cO' _ rfl)) [] [(0, 0)] [] [(1, 3), (2, 4), (3, 5), (4, 6), (5, 7)] [(3, .uniq), (4, .uniq), (5, .uniq), (6, .uniq), (7, .uniq)] (.tup [.agg (cnG 3 4 5 (cG iss 1 0 1 543 [] (tmNew 3))), .glist 6 7 [sgG 7 (sG iss 0 18 [])], .val (.int .i64 0)]) ?hk ?_); (case hk => rfl); (conv => whnf); (repeat (refine And.intro ?_ ?_; exact sideT; (conv => whnf))); (fail_if_success (with_reducible first | refine And.intro (eqv_i ?_) ?_ | refine And.intro (ren_i ?_) ?_)))) | (((with_reducible refine qCall.of (cT) [] [(0, 0), (0, 3), (0, 4), (0, 5)] [] [(1, 9), (2, 10), (3, 11), (4, 12), (5, 13), (6, 14)] [(9, .uniq), (10, .uniq), (11, .uniq), (12, .uniq), (13, .uniq), (14, .uniq)] (.tup [.agg (cnG 9 10 11 (cG iss 2 1 1 543 [] tm0)), .glist 12 7 [], gL 14 [], .val (.int .i64 0)]) ?hk ?_); (case hk => rfl); (conv => whnf); (repeat (refine And.intro ?_ ?_; exact sideT; (conv => whnf))); (fail_if_success (with_reducible first | refine And.intro (eqv_i ?_) ?_ | refine And.intro (ren_i ?_) ?_)))) | (((with_reducible refine qCall.of (cS) [] [(0, 0), (0, 9), (0, 10), (0, 11)] [(0, 2)] [(1, 15), (2, 16), (3, 17), (4, 18), (5, 19)] [(15, .uniq), (16, .uniq), (17, .uniq), (18, .uniq), (19, .uniq)] (.tup [.agg (cnG 15 16 17 (cG iss 2 1 544 543 bb (tmNew 3))), .glist 18 7 [sgG 19 (sG iss 1 24 d1), sgG 19 (sG iss 537 24 d2)], .val (.int .i64 0)]) ?hk ?_); (case hk => rfl); (conv => whnf); (repeat (refine And.intro ?_ ?_; exact sideT; (conv => whnf))); (fail_if_success (with_reducible first | refine And.intro (eqv_i ?_) ?_ | refine And.intro (ren_i ?_) ?_)))) | (((with_reducible refine qCall.of (cL) [] [(0, 0), (0, 15), (0, 16), (0, 17)] [] [(1, 20), (2, 21), (3, 22), (4, 23), (5, 24), (6, 25)] [(20, .uniq), (21, .uniq), (22, .uniq), (23, .uniq), (24, .uniq), (25, .uniq)] (.tup [.agg (cnG 20 21 22 (cG iss 2 544 1619 5000 oo (tmNew 3))), .glist 23 7 [sgG 24 (sG iss 544 24 d3), sgG 24 (sG iss 1080 24 d4), sgG 24 (sG iss 1616 24 d5)], gL 25 [], .val (.int .i64 0)]) ?hk ?_); (case hk => rfl); (conv => whnf); (repeat (refine And.intro ?_ ?_; exact sideT; (conv => whnf))); (fail_if_success (with_reducible first | refine And.intro (eqv_i ?_) ?_ | refine And.intro (ren_i ?_) ?_)))) | ((with_reducible refine qCall.pure (wakes16_l) ?_ ?_ ?_ ?_); rotate_left 4; exact trivial; exact plT; exact plT) | (refine qCase_i (mkS' (nb := 1) 26 [.val (.int .u8 0)] (zz.map bR) rfl rfl rfl rfl rfl rfl rfl (by decide) (by omega) rfl rfl hzz) ?_) | (((with_reducible refine qCall.reads (cN) [(0, 0), (0, 20), (0, 21), (0, 22)] [(0, 26)] ?hk ?_); (case hk => rfl); (conv => whnf); (repeat (refine And.intro ?_ ?_; exact sideT; (conv => whnf))); (fail_if_success (with_reducible first | refine And.intro (eqv_i ?_) ?_ | refine And.intro (ren_i ?_) ?_))))) <;> (conv => whnf))))
      all_goals first | ((refine qConv.of hB [] [(0, 0)] [] (by rfl) ?_; focus ((conv => whnf); (repeat (refine And.intro ?_ ?_; rotate_left; (conv => whnf))); exact trivial; all_goals (try exact andT))); all_goals rfl; done) | (exfalso; simp_all; done)
end Go.Proofs.Ythkjiihphdpagaa

/- A connection and a plain peer: the law on data. Condition: lengths that an argument may have. -/
import Derived.Test.YthkjiihphdpagaaPkAK
import Derived.Test.YthkjiihphdpagaaPkAG
import Derived.Test.YthkjiihphdpagaaPkAL
namespace Go.Proofs.Ythkjiihphdpagaa
open Go.RowKit
set_option linter.unusedVariables false
set_option linter.unusedSimpArgs false
set_option maxRecDepth 100000
set_option maxHeartbeats 4000000
theorem psg_fits {A B : List Int} {iss irs : Int} {c : Cn} {T U N : Nat} (h : TkI A B iss irs c T U N) {w : Int} (hw : 0 ≤ w ∧ w ≤ 65535) {size low H1 : Nat} (hs : size ≤ 500) : fitsB c (psg A iss irs w size low H1) = true := by
  have b1 := wadd_bd irs (1 + low)
  have b2 := wadd_bd iss (1 + H1)
  have hl : ((A.drop low).take size).length ≤ 1460 := by simp; omega
  unfold fitsB psg sgB within
  dsimp only
  rw [h.pp, h.port]
  simp only [beq_self_eq_true, Bool.and_true, Bool.and_eq_true, decide_eq_true_eq]
  omega
theorem k_open (iss irs : Int) : opens 1 2 (wadd iss 0) ⟨3, 4, wadd irs 0, 0, 2, 3000, []⟩ = ⟨⟨1, 2, 3, 4, 1, wadd iss 0, wadd iss 1, 3000, [], wadd irs 1, [], false, tmNew 3⟩, [⟨4, 3, wadd iss 0, wadd irs 1, 18, 2048, []⟩], []⟩ := by
  simp [opens, Cn.start, Stp.seg, wadd_two]
theorem k_est (iss irs : Int) : (⟨1, 2, 3, 4, 1, wadd iss 0, wadd iss 1, 3000, [], wadd irs 1, [], false, tmNew 3⟩ : Cn).takes ⟨3, 4, wadd irs 1, wadd iss 1, 16, 3000, []⟩ = ⟨cUp iss irs, [], []⟩ := est iss irs 3000 3000
theorem hearGo_step {iss irs : Int} {lost : Nat → Bool} {l : List Sg} {i : Nat} {m : Sg} {s R : List Int × Int} (h : l[i]? = some m) (hR : hearGo iss irs lost i (l.drop i) s = R) :
    hearGo iss irs lost (i + 1) (l.drop (i + 1)) (bif lost i then s else (hear1 iss m s.1, max s.2 (wdiff m.ack (wadd irs 1)))) = R := by
  rw [drop_cons h, hearGo] at hR; exact hR
theorem ones_segs (r : Nat) (l : List Sg) : (l.map (sgG r)).all (fun r => r.all AV.one) = true := by simp [AV.one, Value.oneCell']
theorem segs_gg2 {L I F : Prs} {h : Hp} {r r2 r' : Nat} (h0 : I.has r r' = true) (h1 : I.has r2 r' = true) (l l2 : List Sg) : RowsRen (qOf L I F) h (l.map (sgG r) ++ l2.map (sgG r2)) ((l ++ l2).map (sgG r')) :=
  RowsRen.castR (by rw [List.map_append]) (RowsRen.app (segs_gg h0 l) (segs_gg h1 l2))
theorem talking_l (t : Talk) : ACallL Try.prog 6 [.agg (tkR t)] [.perm] (.val (.bool true)) [.perm] := by
  have pa := pl_bytes t.a
  have pb := pl_bytes t.b
  have pc := pl_nums t.lost
  have pd := pl_nums t.wins
  obtain ⟨iss, hiss, hw⟩ := word_of t.iss
  obtain ⟨irs, hirs, hw2⟩ := word_of (t.iss.fdiv (2 ^ min (Int.toNat 7) IntKind.i64.bits))
  have z1 := wadd_zero hw
  have z2 := wadd_zero hw2
  dsimp only [tkR]
  by_cases hbig : 3000 < t.a.length ∨ 3000 < t.b.length ∨ 300 < t.lost.length
  · have q1 : 3000 < t.a.length → decide (3000 < ((t.a.map bR).length : Int)) = true := fun h => by simp; omega
    have q2 : 3000 < t.b.length → decide (3000 < ((t.b.map bR).length : Int)) = true := fun h => by simp; omega
    have q3 : 300 < t.lost.length → decide (300 < ((t.lost.map nR1).length : Int)) = true := fun h => by simp; omega
    by_cases h1 : 3000 < t.a.length
    · have g := q1 h1
      refine ACallL.of_ev mixed Try.func6 rfl (fun a w => Try.call6 a w) (congrArg Array.toList Try.results6) Try.ntmps6 fun B hB => ?_
      ((conv => whnf); (repeat' ((first | (with_reducible first | refine qif_n ?_ | refine qif_t ‹_› ?_ | refine qif_f ‹_› ?_) | ((with_reducible refine qif_t ?_ ?_); focus decide) | ((with_reducible refine qif_f ?_ ?_); focus decide) | (with_reducible refine And.intro (orderOk_i ?ho) ?_; (case ho => kernel_rfl)) | (with_reducible first | refine qif_i (fun _ => ?_) (fun _ => ?_) | refine frcVs_i ?_ | refine frcRs_i ?_)) <;> (conv => whnf))))
      all_goals (refine qConv.of hB [] [(0, 0)] [] (by rfl) ?_; focus ((conv => whnf); (repeat (refine And.intro ?_ ?_; rotate_left; (conv => whnf))); exact trivial; all_goals (try exact andT)))
    · have g1 : decide (3000 < ((t.a.map bR).length : Int)) = false := by simp; omega
      by_cases h2 : 3000 < t.b.length
      · have g := q2 h2
        refine ACallL.of_ev mixed Try.func6 rfl (fun a w => Try.call6 a w) (congrArg Array.toList Try.results6) Try.ntmps6 fun B hB => ?_
        ((conv => whnf); (repeat' ((first | (with_reducible first | refine qif_n ?_ | refine qif_t ‹_› ?_ | refine qif_f ‹_› ?_) | ((with_reducible refine qif_t ?_ ?_); focus decide) | ((with_reducible refine qif_f ?_ ?_); focus decide) | (with_reducible refine And.intro (orderOk_i ?ho) ?_; (case ho => kernel_rfl)) | (with_reducible first | refine qif_i (fun _ => ?_) (fun _ => ?_) | refine frcVs_i ?_ | refine frcRs_i ?_)) <;> (conv => whnf))))
        all_goals (refine qConv.of hB [] [(0, 0)] [] (by rfl) ?_; focus ((conv => whnf); (repeat (refine And.intro ?_ ?_; rotate_left; (conv => whnf))); exact trivial; all_goals (try exact andT)))
      · have g2 : decide (3000 < ((t.b.map bR).length : Int)) = false := by simp; omega
        have g := q3 (by omega)
        refine ACallL.of_ev mixed Try.func6 rfl (fun a w => Try.call6 a w) (congrArg Array.toList Try.results6) Try.ntmps6 fun B hB => ?_
        ((conv => whnf); (repeat' ((first | (with_reducible first | refine qif_n ?_ | refine qif_t ‹_› ?_ | refine qif_f ‹_› ?_) | ((with_reducible refine qif_t ?_ ?_); focus decide) | ((with_reducible refine qif_f ?_ ?_); focus decide) | (with_reducible refine And.intro (orderOk_i ?ho) ?_; (case ho => kernel_rfl)) | (with_reducible first | refine qif_i (fun _ => ?_) (fun _ => ?_) | refine frcVs_i ?_ | refine frcRs_i ?_)) <;> (conv => whnf))))
        all_goals (refine qConv.of hB [] [(0, 0)] [] (by rfl) ?_; focus ((conv => whnf); (repeat (refine And.intro ?_ ?_; rotate_left; (conv => whnf))); exact trivial; all_goals (try exact andT)))
  · have hA : t.a.length ≤ 3000 := by omega
    have hb3 : t.b.length ≤ 3000 := by omega
    have hL : t.lost.length ≤ 300 := by omega
    have g1 : decide (3000 < ((t.a.map bR).length : Int)) = false := by simp; omega
    have g2 : decide (3000 < ((t.b.map bR).length : Int)) = false := by simp; omega
    have g3 : decide (300 < ((t.lost.map nR1).length : Int)) = false := by simp; omega
    have hop : openB 1 2 iss ⟨3, 4, irs, 0, 2, 3000, []⟩ = true := openE hw hw2 (by omega)
    have h0 := (open_I hop).1
    have cO := tcpOpenA_l 1 2 iss ⟨3, 4, irs, 0, 2, 3000, []⟩ hop
    have eO := k_open iss irs
    rw [z1, z2] at eO
    rw [eO] at cO h0
    have cO' : ∀ r q, r = iss → q = irs → ACallL Try.prog 9 [.val (.int .i64 1), .val (.int .i64 2), .val (.int .i64 r), .agg (sgR 0 ⟨3, 4, q, 0, 2, 3000, []⟩)] [.perm] (stA ⟨⟨1, 2, 3, 4, 1, iss, wadd iss 1, 3000, [], wadd irs 1, [], false, tmNew 3⟩, [⟨4, 3, iss, wadd irs 1, 18, 2048, []⟩], []⟩) stH := fun r q e e2 => by rw [e, e2]; exact cO
    have cT := tcpTake_l (⟨1, 2, 3, 4, 1, iss, wadd iss 1, 3000, [], wadd irs 1, [], false, tmNew 3⟩ : Cn) ⟨3, 4, wadd irs 1, wadd iss 1, 16, 3000, []⟩ ((cnB_iff _).2 h0) (by
      unfold fitsB
      rw [sgB_w2 iss irs 1 1 16 3000 (by omega) (by omega)]
      rfl)
    have eT := k_est iss irs
    rw [z1] at eT
    rw [eT] at cT
    have hr1 : wadd (IntKind.i64.wrap (IntKind.u32.wrap t.iss)) 1 = wadd iss 1 := by rw [hiss]
    have hq1 : wadd (IntKind.i64.wrap (IntKind.u32.wrap (t.iss.fdiv (2 ^ min (Int.toNat 7) IntKind.i64.bits)))) 1 = wadd irs 1 := by rw [hirs]
    have cT' : ∀ r q, r = wadd iss 1 → q = wadd irs 1 → ACallL Try.prog 10 [.agg (cnR 0 (⟨1, 2, 3, 4, 1, iss, wadd iss 1, 3000, [], wadd irs 1, [], false, tmNew 3⟩ : Cn)), .agg (sgR 0 ⟨3, 4, q, r, 16, 3000, []⟩)] [.perm] (.tup [.agg (cnG 1 2 3 (cUp iss irs)), .glist 4 7 (([] : List Sg).map (sgG 5)), gL 6 [], .val (.int .i64 0)]) [.perm, .uniq, .uniq, .uniq, .uniq, .uniq, .uniq] := fun r q e e2 => by rw [e, e2]; exact cT
    have cS := tcpSend_l (cUp iss irs) t.b ((cnB_iff _).2 (up_I iss irs)) (up_send hb3)
    have hS := talk_start (A := t.a) (iss := iss) (irs := irs) hb3 (1 + bring t.size 500).toNat (max t.lost.length 50) (by omega)
    have hyl := (send_I (up_I iss irs) (up_send (iss := iss) (irs := irs) hb3)).2.cnt
    obtain ⟨y, hy⟩ : ∃ r, (cUp iss irs).sends t.b = r := ⟨_, rfl⟩
    rw [hy] at cS hS hyl
    replace hyl : y.out.length ≤ 20000 := Nat.le_trans hyl (by decide)
    have cB5 := bring_l t.size 500 (by decide) (by decide)
    have b5 := bring_bd t.size 500 (by decide)
    have w5 := IntWalk.i64_in (1 + bring t.size 500) (by omega)
    clear cO cT
    dsimp only [stA, cnR, cnG, cnL, sgR, sgG, sgL, List.map_nil, List.map_cons] at cO' cT' cS
    refine ACallL.of_ev mixed Try.func6 rfl (fun a w => Try.call6 a w) (congrArg Array.toList Try.results6) Try.ntmps6 fun B hB => ?_
    ((conv => whnf); (repeat' ((first | (with_reducible first | refine qif_n ?_ | refine qif_t ‹_› ?_ | refine qif_f ‹_› ?_) | ((with_reducible refine qif_t ?_ ?_); focus decide) | ((with_reducible refine qif_f ?_ ?_); focus decide) | (with_reducible refine And.intro (orderOk_i ?ho) ?_; (case ho => kernel_rfl)) | ((with_reducible refine qif_t ?_ ?_); focus (simp []; done)) | ((with_reducible refine qif_f ?_ ?_); focus (simp []; done)) | (with_reducible first | refine qif_i (fun _ => ?_) (fun _ => ?_) | refine frcVs_i ?_ | refine frcRs_i ?_) | ((with_reducible refine qCall.pure (num16_l _) ?_ ?_ ?_ ?_); rotate_left 4; exact trivial; exact plT; exact plT) | ((with_reducible refine qCall.pure (refAdd_l _ _) ?_ ?_ ?_ ?_); rotate_left 4; exact trivial; exact plT; exact plT) | ((with_reducible refine qCall.pure (cB5) ?_ ?_ ?_ ?_); rotate_left 4; exact trivial; exact plT; exact plT) | (((with_reducible refine qCall.of ((cO' _ _ hiss hirs)) [] [(0, 0)] [] [(1, 2), (2, 3), (3, 4), (4, 5), (5, 6)] [(2, .uniq), (3, .uniq), (4, .uniq), (5, .uniq), (6, .uniq)] (.tup [.agg (cnG 2 3 4 (⟨1, 2, 3, 4, 1, iss, wadd iss 1, 3000, [], wadd irs 1, [], false, tmNew 3⟩ : Cn)), .glist 5 7 [sgG 6 ⟨4, 3, iss, wadd irs 1, 18, 2048, []⟩], .val (.int .i64 0)]) ?hk ?_); (case hk => rfl); (conv => whnf); (repeat (refine And.intro ?_ ?_; exact sideT; (conv => whnf))); (fail_if_success (with_reducible first | refine And.intro (eqv_i ?_) ?_ | refine And.intro (ren_i ?_) ?_)))) | (((with_reducible refine qCall.of ((cT' _ _ hr1 hq1)) [] [(0, 0), (0, 2), (0, 3), (0, 4)] [] [(1, 8), (2, 9), (3, 10), (4, 11), (5, 12), (6, 13)] [(8, .uniq), (9, .uniq), (10, .uniq), (11, .uniq), (12, .uniq), (13, .uniq)] (.tup [.agg (cnG 8 9 10 (cUp iss irs)), .glist 11 7 [], gL 13 [], .val (.int .i64 0)]) ?hk ?_); (case hk => rfl); (conv => whnf); (repeat (refine And.intro ?_ ?_; exact sideT; (conv => whnf))); (fail_if_success (with_reducible first | refine And.intro (eqv_i ?_) ?_ | refine And.intro (ren_i ?_) ?_)))) | (((with_reducible refine qCall.of (cS) [] [(0, 0), (0, 8), (0, 9), (0, 10)] [] [(1, 14), (2, 15), (3, 16), (4, 17), (5, 18)] [(14, .uniq), (15, .uniq), (16, .uniq), (17, .uniq), (18, .uniq)] (.tup [.agg (cnG 14 15 16 y.c), .glist 17 7 (y.out.map (sgG 18)), .val (.int .i64 0)]) ?hk ?_); (case hk => rfl); (conv => whnf); (repeat (refine And.intro ?_ ?_; exact sideT; (conv => whnf))); (fail_if_success (with_reducible first | refine And.intro (eqv_i ?_) ?_ | refine And.intro (ren_i ?_) ?_))))) <;> (conv => whnf))))
    refine qAW.loopS (by simp only [spine, List.cons_append, List.nil_append, List.append_assoc]; rfl) (X := Nat × TW) (fun x => slotsOf 370 [(1, .ptr 1 0 0), (3, .val (.int .i64 iss)), (4, .val (.int .i64 irs)), (5, .val (.int .i64 (1 + bring t.size 500))), (6, .ptr 2 0 0), (7, .glist 6 7 (x.2.l.map (sgG 7))), (9, gL 8 x.2.told), (10, gL 9 x.2.heard), (11, .val (.int .i64 x.2.acked)), (12, .val (.int .i64 x.1))])
      (fun x => [.perm, .live ⟨6, 25, [tkR t]⟩, cnQ (cnG 3 4 5 x.2.c), .uniq, .uniq, .uniq, .uniq, .uniq, .uniq, .uniq])
      (fun x => x.1 ≤ 400 ∧ x.2.l.length ≤ 20000 ∧ TalkAt t.a t.b iss irs (1 + bring t.size 500).toNat (max t.lost.length 50) x.1 x.2) (fun x => 400 - x.1) (0, ⟨y.c, y.out, [], [], 0⟩) ⟨Nat.zero_le _, hyl, hS⟩ ?_ ?_
    · (refine qConv.of hB [(1, 1), (7, 2)] [(0, 0), (14, 3), (15, 4), (16, 5), (17, 6), (18, 7)] [] (by rfl) ?_; focus ((conv => whnf); (repeat (refine And.intro ?_ ?_; rotate_left; (conv => whnf))); exact trivial; all_goals (try exact andT)))
      all_goals (try simp only [w5])
      all_goals (try simp only [hiss, hirs])
      all_goals (try (first | rfl | exact segs_gg rfl _ | exact segs_gg2 rfl rfl _ _ | exact bytes_cells _ | exact parts_gg rfl _ | (refine RowsRen.one ?_; (repeat (refine Cells.cons ?_ ?_; focus (first | exact .val _ | exact Ren.gg rfl _ | exact Ren.ll rfl _ | exact Ren.pgl rfl rfl _ | exact Ren.vnil _ _ | fail))); exact Cells.nil) | (refine congrArg (Value.int IntKind.i64) ?_; omega)))
    · rintro E0 ⟨k, x⟩ ⟨hk, hxl, hx⟩ hE0
      (try dsimp only at hk hxl hx); (try dsimp only)
      have w := IntWalk.i64_in ((k : Int) + 1) (by omega)
      by_cases hlt : (k : Int) < 400
      · obtain ⟨T, U, N, H, K, hI, -, -, -⟩ := id hx
        obtain ⟨lost, hlost⟩ : ∃ lost : Nat → Bool, ∀ i, lost i = (decide ((k : Int) < ((t.lost.map nR1).length : Int)) && (bring (IntKind.i64.wrap (t.lost.getD k 0 + (i : Int))) 3 == 0)) := ⟨_, fun _ => rfl⟩
        obtain ⟨H1, K1, a1, a2, a3, a4, a5, a6, rest⟩ := round_K hA hb3 hI lost
        have hTA : T ≤ t.a.length := hI.k.inv.tle
        have hNB := hI.k.nb
        rw [hI.heard, hI.acked] at a5
        obtain ⟨c0, l0, told0, heard0, ack0⟩ := x
        dsimp only at hxl
        have e1 := hI.heard
        have e2 := hI.acked
        have e3 := hI.segs
        dsimp only at e1 e2 e3 a5 hI ⊢
        subst e1 e2
        refine qAWs.cut mixed 2 (by simp only [List.take_succ_cons, List.take_zero]; rfl) (by simp only [List.drop_succ_cons, List.drop_zero]; rfl) (by simp only [chain]; rfl) rfl (X := Unit) (fun _ => slotsOf 370 [(1, AV.ptr 1 0 0), (3, .val (.int .i64 iss)), (4, .val (.int .i64 irs)), (5, .val (.int .i64 (1 + bring t.size 500))), (6, .ptr 2 0 0), (7, .glist 6 7 (l0.map (sgG 7))), (9, gL 8 told0), (10, gL 9 (t.b.take H)), (11, .val (.int .i64 K)), (12, .val (.int .i64 k))]) (fun _ => [.perm, .live ⟨6, 25, [tkR t]⟩, cnQ (cnG 3 4 5 c0), .uniq, .uniq, .uniq, .uniq, .uniq, .uniq, .uniq]) (fun _ => True) ?_ ?_
        · ((conv => whnf); (repeat' ((first | (with_reducible first | refine qif_n ?_ | refine qif_t ‹_› ?_ | refine qif_f ‹_› ?_) | ((with_reducible refine qif_t ?_ ?_); focus decide) | ((with_reducible refine qif_f ?_ ?_); focus decide) | (with_reducible refine And.intro (orderOk_i ?ho) ?_; (case ho => kernel_rfl)) | ((with_reducible refine qif_t ?_ ?_); focus (simp [hlt]; done)) | ((with_reducible refine qif_f ?_ ?_); focus (simp [hlt]; done)) | (with_reducible first | refine qif_i (fun _ => ?_) (fun _ => ?_) | refine frcVs_i ?_ | refine frcRs_i ?_)) <;> (conv => whnf))))
          refine ⟨(), trivial, ?_⟩
          (refine qConv.of hB [(1, 1), (2, 2)] [(0, 0), (3, 3), (4, 4), (5, 5), (6, 6), (7, 7), (8, 8), (9, 9)] [] (by rfl) ?_; focus ((conv => whnf); (repeat (refine And.intro ?_ ?_; rotate_left; (conv => whnf))); exact trivial; all_goals (try exact andT)))
          all_goals (try simp only [hiss, hirs])
          all_goals (try (first | rfl | exact segs_gg rfl _ | exact segs_gg2 rfl rfl _ _ | exact bytes_cells _ | exact parts_gg rfl _ | (refine RowsRen.one ?_; (repeat (refine Cells.cons ?_ ?_; focus (first | exact .val _ | exact Ren.gg rfl _ | exact Ren.ll rfl _ | exact Ren.pgl rfl rfl _ | exact Ren.vnil _ _ | fail))); exact Cells.nil) | (refine congrArg (Value.int IntKind.i64) ?_; omega)))
        rintro ⟨⟩ -
        (try dsimp only)
        refine qAWs.block (by simp only [spine, List.cons_append, List.nil_append, List.append_assoc]; rfl) ?_
        rintro E1 hE1
        refine qAWs.cut mixed 2 (by simp only [List.take_succ_cons, List.take_zero]; rfl) (by simp only [List.drop_succ_cons, List.drop_zero]; rfl) (by simp only [chain]; rfl) rfl (X := Unit) (fun _ => slotsOf 370 [(1, AV.ptr 1 0 0), (3, .val (.int .i64 iss)), (4, .val (.int .i64 irs)), (5, .val (.int .i64 (1 + bring t.size 500))), (6, .ptr 2 0 0), (7, .glist 6 7 (l0.map (sgG 7))), (9, gL 8 told0), (10, gL 9 (t.b.take H1)), (11, .val (.int .i64 K1)), (12, .val (.int .i64 k))]) (fun _ => [.perm, .live ⟨6, 25, [tkR t]⟩, cnQ (cnG 3 4 5 c0), .uniq, .uniq, .uniq, .uniq, .uniq, .uniq, .uniq]) (fun _ => True) ?_ ?_
        · ((conv => whnf); (repeat' ((first | (with_reducible first | refine qif_n ?_ | refine qif_t ‹_› ?_ | refine qif_f ‹_› ?_) | ((with_reducible refine qif_t ?_ ?_); focus decide) | ((with_reducible refine qif_f ?_ ?_); focus decide) | (with_reducible refine And.intro (orderOk_i ?ho) ?_; (case ho => kernel_rfl)) | ((with_reducible refine qif_t ?_ ?_); focus (simp []; done)) | ((with_reducible refine qif_f ?_ ?_); focus (simp []; done)) | (with_reducible first | refine qif_i (fun _ => ?_) (fun _ => ?_) | refine frcVs_i ?_ | refine frcRs_i ?_)) <;> (conv => whnf))))
          refine qAW.loopE mixed (X := Nat × Nat × Nat) (fun s => slotsOf 370 [(1, .ptr 1 0 0), (3, .val (.int .i64 iss)), (4, .val (.int .i64 irs)), (5, .val (.int .i64 (1 + bring t.size 500))), (6, .ptr 2 0 0), (7, .glist 6 7 (l0.map (sgG 7))), (9, gL 8 told0), (10, gL 9 (t.b.take s.2.1)), (11, .val (.int .i64 s.2.2)), (12, .val (.int .i64 k)), (13, .val (.int .i64 s.1))])
            (fun _ => [.perm, .live ⟨6, 25, [tkR t]⟩, cnQ (cnG 3 4 5 c0), .uniq, .uniq, .uniq, .uniq, .uniq, .uniq, .uniq])
            (fun s => s.1 ≤ l0.length ∧ s.2.1 ≤ N ∧ s.2.2 ≤ T ∧ hearGo iss irs lost s.1 (l0.drop s.1) (t.b.take s.2.1, (s.2.2 : Int)) = (t.b.take H1, (K1 : Int))) (fun s => l0.length - s.1) (0, H, K) ⟨Nat.zero_le _, hI.hn, hI.kt, a5⟩ ?_ ?_
          · (refine qConv.of hB [(1, 1), (2, 2)] [(0, 0), (3, 3), (4, 4), (5, 5), (6, 6), (7, 7), (8, 8), (9, 9)] [] (by rfl) ?_; focus ((conv => whnf); (repeat (refine And.intro ?_ ?_; rotate_left; (conv => whnf))); exact trivial; all_goals (try exact andT)))
            all_goals (try simp only [hiss, hirs])
            all_goals (try (first | rfl | exact segs_gg rfl _ | exact segs_gg2 rfl rfl _ _ | exact bytes_cells _ | exact parts_gg rfl _ | (refine RowsRen.one ?_; (repeat (refine Cells.cons ?_ ?_; focus (first | exact .val _ | exact Ren.gg rfl _ | exact Ren.ll rfl _ | exact Ren.pgl rfl rfl _ | exact Ren.vnil _ _ | fail))); exact Cells.nil) | (refine congrArg (Value.int IntKind.i64) ?_; omega)))
          · rintro E ⟨i, Hi, Ki⟩ ⟨hi, hHi, hKi, hgo⟩ hE
            dsimp only at hi hHi hKi hgo ⊢
            have wi := IntWalk.i64_in ((i : Int) + 1) (by omega)
            have lH0 : (t.b.take Hi).length = Hi := by simp; omega
            have lH : (((t.b.take Hi).map bR).length : Int) = Hi := by rw [List.length_map, lH0]
            have w1h : IntKind.i64.wrap (1 + (((t.b.take Hi).map bR).length : Int)) = 1 + (Hi : Int) := by rw [lH, IntWalk.i64_in _ (by omega)]
            have cAd : ACallL Try.prog 11 [.val (.int .i64 iss), .val (.int .i64 (IntKind.i64.wrap (1 + (((t.b.take Hi).map bR).length : Int))))] [.perm] (.val (.int .i64 (wadd iss (1 + (Hi : Int))))) [.perm] := by rw [w1h]; exact refAdd_l _ _
            by_cases hil : i < l0.length
            · obtain ⟨m, hm⟩ : ∃ m, l0[i]? = some m := ⟨l0[i], by simp [hil]⟩
              have hS := e3 m (List.mem_of_getElem? hm)
              have hgo2 := hearGo_step hm hgo
              obtain ⟨Hj, j1, j2, j3, -⟩ := hear_K hb3 hS hHi hNB
              obtain ⟨kk, y1, y2, y3⟩ := hS.acked (by omega)
              rw [y3] at hgo2
              have cAi := refAdd_l irs 1
              have cDi := refDiff_l m.ack (wadd irs 1)
              rw [y3] at cDi
              obtain ⟨Kj, hKj⟩ : ∃ Kj : Nat, max (Ki : Int) (kk : Int) = Kj := ⟨max Ki kk, by omega⟩
              rw [hKj] at hgo2
              have hrow : (l0.map (sgG 7))[(i : Int).toNat]? = some (sgG 7 m) := by simp [hm]
              have hl := hlost i
              by_cases hlk : k < t.lost.length
              · obtain ⟨q, hq⟩ : ∃ q, t.lost[k]? = some q := ⟨t.lost[k], by simp [hlk]⟩
                have hrowq : (t.lost.map nR1)[(k : Int).toNat]? = some [.val (.int .i64 q)] := by simp [hq, nR1]
                rw [List.getD_eq_getElem?_getD, hq, Option.getD_some, show decide ((k : Int) < ((t.lost.map nR1).length : Int)) = true by simp; omega, Bool.true_and] at hl
                have cB3 := bring_l (IntKind.i64.wrap (q + (i : Int))) 3 (by decide) (by decide)
                cases hb : (bring (IntKind.i64.wrap (q + (i : Int))) 3 == 0) with
                | true =>
                  rw [hl, hb, cond_true] at hgo2
                  subst hE
                  ((conv => whnf); (repeat' ((first | (with_reducible first | refine qif_n ?_ | refine qif_t ‹_› ?_ | refine qif_f ‹_› ?_) | ((with_reducible refine qif_t ?_ ?_); focus decide) | ((with_reducible refine qif_f ?_ ?_); focus decide) | (with_reducible refine And.intro (orderOk_i ?ho) ?_; (case ho => kernel_rfl)) | ((with_reducible refine qif_t ?_ ?_); focus (simp [hil, hlk]; done)) | ((with_reducible refine qif_f ?_ ?_); focus (simp [hil, hlk]; done)) | (with_reducible first | refine qif_i (fun _ => ?_) (fun _ => ?_) | refine frcVs_i ?_ | refine frcRs_i ?_) | ((with_reducible refine qCall.pure (cB3) ?_ ?_ ?_ ?_); rotate_left 4; exact trivial; exact plT; exact plT) | (refine qCase_i (idxG rfl rfl rfl rfl rfl rfl (by omega) hrow) ?_) | (refine qCase_i (idxL rfl rfl rfl rfl rfl rfl (by omega) hrowq) ?_)) <;> (conv => whnf))))
                  refine ⟨(i + 1, Hi, Ki), ⟨by dsimp only; omega, hHi, hKi, hgo2⟩, by dsimp only; omega, ?_⟩
                  (refine qConv.of hB [(1, 1), (2, 2)] [(0, 0), (3, 3), (4, 4), (5, 5), (6, 6), (7, 7), (8, 8), (9, 9)] [] (by rfl) ?_; focus ((conv => whnf); (repeat (refine And.intro ?_ ?_; rotate_left; (conv => whnf))); exact trivial; all_goals (try exact andT)))
                  all_goals (try simp only [hiss, hirs])
                  all_goals (try (first | rfl | exact segs_gg rfl _ | exact segs_gg2 rfl rfl _ _ | exact bytes_cells _ | exact parts_gg rfl _ | (refine RowsRen.one ?_; (repeat (refine Cells.cons ?_ ?_; focus (first | exact .val _ | exact Ren.gg rfl _ | exact Ren.ll rfl _ | exact Ren.pgl rfl rfl _ | exact Ren.vnil _ _ | fail))); exact Cells.nil) | (refine congrArg (Value.int IntKind.i64) ?_; omega)))
                | false =>
                  rw [hl, hb, cond_false] at hgo2
                  have hd := wdiff_bd m.seq (wadd iss (1 + (Hi : Int)))
                  unfold hear1 at j3 hgo2
                  rw [lH0] at j3 hgo2
                  have cDf := refDiff_l m.seq (wadd iss (1 + (Hi : Int)))
                  obtain ⟨d, hdd⟩ : ∃ d, wdiff m.seq (wadd iss (1 + (Hi : Int))) = d := ⟨_, rfl⟩
                  rw [hdd] at cDf hd j3 hgo2
                  have wd : IntKind.i64.wrap (0 - d) = -d := by rw [IntWalk.i64_in (0 - d) (by omega)]; omega
                  rw [j3] at hgo2
                  by_cases hc : d ≤ 0 ∧ -d < m.data.length
                  · obtain ⟨hc1, hc2⟩ := hc
                    rw [if_pos ⟨hc1, hc2⟩] at j3
                    have hc3 : decide (IntKind.i64.wrap (0 - d) < ((m.data.map bR).length : Int)) = true := by rw [wd, decide_eq_true_eq, List.length_map]; exact hc2
                    have hcb : 0 ≤ (some (IntKind.i64.wrap (0 - d))).getD 0 ∧ (some (IntKind.i64.wrap (0 - d))).getD 0 ≤ (none : Option Int).getD ((m.data.map bR).length : Int) ∧ (none : Option Int).getD ((m.data.map bR).length : Int) ≤ (none : Option Int).getD ((m.data.map bR).length : Int) ∧ (none : Option Int).getD ((m.data.map bR).length : Int) ≤ ((m.data.map bR).length : Int) ∧ ((none : Option Int) = none ∨ (none : Option Int) ≠ none) := by
                      rw [Option.getD_some, Option.getD_none, wd, List.length_map]; exact ⟨by omega, by omega, by omega, by omega, .inl rfl⟩
                    have hsl : ((m.data.map bR).drop ((some (IntKind.i64.wrap (0 - d))).getD 0).toNat).take ((none : Option Int).getD ((m.data.map bR).length : Int) - (some (IntKind.i64.wrap (0 - d))).getD 0).toNat = (m.data.drop (-d).toNat).map bR := by
                      rw [Option.getD_some, Option.getD_none, wd, List.length_map, List.map_drop, List.take_of_length_le (by simp; omega)]
                    have hmap : (t.b.take Hi).map bR ++ (m.data.drop (-d).toNat).map bR = (t.b.take Hj).map bR := by rw [← List.map_append, j3]
                    have ltk : ((t.b.take Hi).map bR).length ≤ 3000 := by simp; omega
                    have ltd : ((m.data.drop (-d).toNat).map bR).length ≤ 3000 := by have := congrArg List.length hmap; rw [List.length_append] at this; have : ((t.b.take Hj).map bR).length ≤ 3000 := (by simp; omega); omega
                    subst hE
                    ((conv => whnf); (repeat' ((first | (with_reducible first | refine qif_n ?_ | refine qif_t ‹_› ?_ | refine qif_f ‹_› ?_) | ((with_reducible refine qif_t ?_ ?_); focus decide) | ((with_reducible refine qif_f ?_ ?_); focus decide) | (with_reducible refine And.intro (orderOk_i ?ho) ?_; (case ho => kernel_rfl)) | ((with_reducible refine qif_t ?_ ?_); focus (simp [hil, hlk, hc1]; done)) | ((with_reducible refine qif_f ?_ ?_); focus (simp [hil, hlk, hc1]; done)) | (with_reducible first | refine qif_i (fun _ => ?_) (fun _ => ?_) | refine frcVs_i ?_ | refine frcRs_i ?_) | ((with_reducible refine qCall.pure (cB3) ?_ ?_ ?_ ?_); rotate_left 4; exact trivial; exact plT; exact plT) | ((with_reducible refine qCall.pure (cAd) ?_ ?_ ?_ ?_); rotate_left 4; exact trivial; exact plT; exact plT) | ((with_reducible refine qCall.pure (cDf) ?_ ?_ ?_ ?_); rotate_left 4; exact trivial; exact plT; exact plT) | ((with_reducible refine qCall.pure (cAi) ?_ ?_ ?_ ?_); rotate_left 4; exact trivial; exact plT; exact plT) | ((with_reducible refine qCall.pure (cDi) ?_ ?_ ?_ ?_); rotate_left 4; exact trivial; exact plT; exact plT) | (refine qCase_i (idxG rfl rfl rfl rfl rfl rfl (by omega) hrow) ?_) | (refine qCase_i (idxL rfl rfl rfl rfl rfl rfl (by omega) hrowq) ?_) | (refine qCase_i (slG' rfl rfl rfl rfl rfl rfl rfl rfl hcb hsl) ?_) | (refine qCase_i (apG' (nb := 1) rfl rfl rfl rfl rfl rfl rfl rfl rfl rfl (by decide) (ones_bytes _) (Nat.le_trans (Nat.mul_le_mul_right _ (Nat.add_le_add ltk ltd)) (by decide)) hmap) ?_)) <;> (conv => whnf))))
                    refine ⟨(i + 1, Hj, Kj), ⟨by dsimp only; omega, j2, by dsimp only; omega, hgo2⟩, by dsimp only; omega, ?_⟩
                    (refine qConv.of hB [(1, 1), (2, 2)] [(0, 0), (3, 3), (4, 4), (5, 5), (6, 6), (7, 7), (8, 8), (11, 9)] [] (by rfl) ?_; focus ((conv => whnf); (repeat (refine And.intro ?_ ?_; rotate_left; (conv => whnf))); exact trivial; all_goals (try exact andT)))
                    all_goals (try simp only [hiss, hirs])
                    all_goals (try (first | rfl | exact segs_gg rfl _ | exact segs_gg2 rfl rfl _ _ | exact bytes_cells _ | exact parts_gg rfl _ | (refine RowsRen.one ?_; (repeat (refine Cells.cons ?_ ?_; focus (first | exact .val _ | exact Ren.gg rfl _ | exact Ren.ll rfl _ | exact Ren.pgl rfl rfl _ | exact Ren.vnil _ _ | fail))); exact Cells.nil) | (refine congrArg (Value.int IntKind.i64) ?_; omega)))
                  · have j3' := j3
                    rw [if_neg hc] at j3'
                    have hout : slotsOf 370 [(1, AV.ptr 1 0 0), (3, .val (.int .i64 iss)), (4, .val (.int .i64 irs)), (5, .val (.int .i64 (1 + bring t.size 500))), (6, .ptr 2 0 0), (7, .glist 6 7 (l0.map (sgG 7))), (9, gL 8 told0), (10, gL 9 (t.b.take Hj)), (11, .val (.int .i64 Kj)), (12, .val (.int .i64 k)), (13, .val (.int .i64 (i + 1 : Nat)))] = slotsOf 370 [(1, AV.ptr 1 0 0), (3, .val (.int .i64 iss)), (4, .val (.int .i64 irs)), (5, .val (.int .i64 (1 + bring t.size 500))), (6, .ptr 2 0 0), (7, .glist 6 7 (l0.map (sgG 7))), (9, gL 8 told0), (10, gL 9 (t.b.take Hi)), (11, .val (.int .i64 Kj)), (12, .val (.int .i64 k)), (13, .val (.int .i64 (i + 1 : Nat)))] := by rw [j3']
                    by_cases hc1 : d ≤ 0
                    · have hc3 : decide (IntKind.i64.wrap (0 - d) < ((m.data.map bR).length : Int)) = false := by rw [wd, decide_eq_false_iff_not, List.length_map]; omega
                      subst hE
                      ((conv => whnf); (repeat' ((first | (with_reducible first | refine qif_n ?_ | refine qif_t ‹_› ?_ | refine qif_f ‹_› ?_) | ((with_reducible refine qif_t ?_ ?_); focus decide) | ((with_reducible refine qif_f ?_ ?_); focus decide) | (with_reducible refine And.intro (orderOk_i ?ho) ?_; (case ho => kernel_rfl)) | ((with_reducible refine qif_t ?_ ?_); focus (simp [hil, hlk, hc1]; done)) | ((with_reducible refine qif_f ?_ ?_); focus (simp [hil, hlk, hc1]; done)) | (with_reducible first | refine qif_i (fun _ => ?_) (fun _ => ?_) | refine frcVs_i ?_ | refine frcRs_i ?_) | ((with_reducible refine qCall.pure (cB3) ?_ ?_ ?_ ?_); rotate_left 4; exact trivial; exact plT; exact plT) | ((with_reducible refine qCall.pure (cAd) ?_ ?_ ?_ ?_); rotate_left 4; exact trivial; exact plT; exact plT) | ((with_reducible refine qCall.pure (cDf) ?_ ?_ ?_ ?_); rotate_left 4; exact trivial; exact plT; exact plT) | ((with_reducible refine qCall.pure (cAi) ?_ ?_ ?_ ?_); rotate_left 4; exact trivial; exact plT; exact plT) | ((with_reducible refine qCall.pure (cDi) ?_ ?_ ?_ ?_); rotate_left 4; exact trivial; exact plT; exact plT) | (refine qCase_i (idxG rfl rfl rfl rfl rfl rfl (by omega) hrow) ?_) | (refine qCase_i (idxL rfl rfl rfl rfl rfl rfl (by omega) hrowq) ?_)) <;> (conv => whnf))))
                      refine ⟨(i + 1, Hj, Kj), ⟨by dsimp only; omega, j2, by dsimp only; omega, hgo2⟩, by dsimp only; omega, ?_⟩
                      dsimp only
                      rw [hout]
                      (refine qConv.of hB [(1, 1), (2, 2)] [(0, 0), (3, 3), (4, 4), (5, 5), (6, 6), (7, 7), (8, 8), (9, 9)] [] (by rfl) ?_; focus ((conv => whnf); (repeat (refine And.intro ?_ ?_; rotate_left; (conv => whnf))); exact trivial; all_goals (try exact andT)))
                      all_goals (try simp only [hiss, hirs])
                      all_goals (try (first | rfl | exact segs_gg rfl _ | exact segs_gg2 rfl rfl _ _ | exact bytes_cells _ | exact parts_gg rfl _ | (refine RowsRen.one ?_; (repeat (refine Cells.cons ?_ ?_; focus (first | exact .val _ | exact Ren.gg rfl _ | exact Ren.ll rfl _ | exact Ren.pgl rfl rfl _ | exact Ren.vnil _ _ | fail))); exact Cells.nil) | (refine congrArg (Value.int IntKind.i64) ?_; omega)))
                    · subst hE
                      ((conv => whnf); (repeat' ((first | (with_reducible first | refine qif_n ?_ | refine qif_t ‹_› ?_ | refine qif_f ‹_› ?_) | ((with_reducible refine qif_t ?_ ?_); focus decide) | ((with_reducible refine qif_f ?_ ?_); focus decide) | (with_reducible refine And.intro (orderOk_i ?ho) ?_; (case ho => kernel_rfl)) | ((with_reducible refine qif_t ?_ ?_); focus (simp [hil, hlk, hc1]; done)) | ((with_reducible refine qif_f ?_ ?_); focus (simp [hil, hlk, hc1]; done)) | (with_reducible first | refine qif_i (fun _ => ?_) (fun _ => ?_) | refine frcVs_i ?_ | refine frcRs_i ?_) | ((with_reducible refine qCall.pure (cB3) ?_ ?_ ?_ ?_); rotate_left 4; exact trivial; exact plT; exact plT) | ((with_reducible refine qCall.pure (cAd) ?_ ?_ ?_ ?_); rotate_left 4; exact trivial; exact plT; exact plT) | ((with_reducible refine qCall.pure (cDf) ?_ ?_ ?_ ?_); rotate_left 4; exact trivial; exact plT; exact plT) | ((with_reducible refine qCall.pure (cAi) ?_ ?_ ?_ ?_); rotate_left 4; exact trivial; exact plT; exact plT) | ((with_reducible refine qCall.pure (cDi) ?_ ?_ ?_ ?_); rotate_left 4; exact trivial; exact plT; exact plT) | (refine qCase_i (idxG rfl rfl rfl rfl rfl rfl (by omega) hrow) ?_) | (refine qCase_i (idxL rfl rfl rfl rfl rfl rfl (by omega) hrowq) ?_)) <;> (conv => whnf))))
                      refine ⟨(i + 1, Hj, Kj), ⟨by dsimp only; omega, j2, by dsimp only; omega, hgo2⟩, by dsimp only; omega, ?_⟩
                      dsimp only
                      rw [hout]
                      (refine qConv.of hB [(1, 1), (2, 2)] [(0, 0), (3, 3), (4, 4), (5, 5), (6, 6), (7, 7), (8, 8), (9, 9)] [] (by rfl) ?_; focus ((conv => whnf); (repeat (refine And.intro ?_ ?_; rotate_left; (conv => whnf))); exact trivial; all_goals (try exact andT)))
                      all_goals (try simp only [hiss, hirs])
                      all_goals (try (first | rfl | exact segs_gg rfl _ | exact segs_gg2 rfl rfl _ _ | exact bytes_cells _ | exact parts_gg rfl _ | (refine RowsRen.one ?_; (repeat (refine Cells.cons ?_ ?_; focus (first | exact .val _ | exact Ren.gg rfl _ | exact Ren.ll rfl _ | exact Ren.pgl rfl rfl _ | exact Ren.vnil _ _ | fail))); exact Cells.nil) | (refine congrArg (Value.int IntKind.i64) ?_; omega)))
              · rw [show decide ((k : Int) < ((t.lost.map nR1).length : Int)) = false by simp; omega, Bool.false_and] at hl
                rw [hl, cond_false] at hgo2
                have cB3 := bring_l 0 3 (by decide) (by decide)
                have hrowq : ([] : List (List AV))[0]? = none := rfl
                have hd := wdiff_bd m.seq (wadd iss (1 + (Hi : Int)))
                unfold hear1 at j3 hgo2
                rw [lH0] at j3 hgo2
                have cDf := refDiff_l m.seq (wadd iss (1 + (Hi : Int)))
                obtain ⟨d, hdd⟩ : ∃ d, wdiff m.seq (wadd iss (1 + (Hi : Int))) = d := ⟨_, rfl⟩
                rw [hdd] at cDf hd j3 hgo2
                have wd : IntKind.i64.wrap (0 - d) = -d := by rw [IntWalk.i64_in (0 - d) (by omega)]; omega
                rw [j3] at hgo2
                by_cases hc : d ≤ 0 ∧ -d < m.data.length
                · obtain ⟨hc1, hc2⟩ := hc
                  rw [if_pos ⟨hc1, hc2⟩] at j3
                  have hc3 : decide (IntKind.i64.wrap (0 - d) < ((m.data.map bR).length : Int)) = true := by rw [wd, decide_eq_true_eq, List.length_map]; exact hc2
                  have hcb : 0 ≤ (some (IntKind.i64.wrap (0 - d))).getD 0 ∧ (some (IntKind.i64.wrap (0 - d))).getD 0 ≤ (none : Option Int).getD ((m.data.map bR).length : Int) ∧ (none : Option Int).getD ((m.data.map bR).length : Int) ≤ (none : Option Int).getD ((m.data.map bR).length : Int) ∧ (none : Option Int).getD ((m.data.map bR).length : Int) ≤ ((m.data.map bR).length : Int) ∧ ((none : Option Int) = none ∨ (none : Option Int) ≠ none) := by
                    rw [Option.getD_some, Option.getD_none, wd, List.length_map]; exact ⟨by omega, by omega, by omega, by omega, .inl rfl⟩
                  have hsl : ((m.data.map bR).drop ((some (IntKind.i64.wrap (0 - d))).getD 0).toNat).take ((none : Option Int).getD ((m.data.map bR).length : Int) - (some (IntKind.i64.wrap (0 - d))).getD 0).toNat = (m.data.drop (-d).toNat).map bR := by
                    rw [Option.getD_some, Option.getD_none, wd, List.length_map, List.map_drop, List.take_of_length_le (by simp; omega)]
                  have hmap : (t.b.take Hi).map bR ++ (m.data.drop (-d).toNat).map bR = (t.b.take Hj).map bR := by rw [← List.map_append, j3]
                  have ltk : ((t.b.take Hi).map bR).length ≤ 3000 := by simp; omega
                  have ltd : ((m.data.drop (-d).toNat).map bR).length ≤ 3000 := by have := congrArg List.length hmap; rw [List.length_append] at this; have : ((t.b.take Hj).map bR).length ≤ 3000 := (by simp; omega); omega
                  subst hE
                  ((conv => whnf); (repeat' ((first | (with_reducible first | refine qif_n ?_ | refine qif_t ‹_› ?_ | refine qif_f ‹_› ?_) | ((with_reducible refine qif_t ?_ ?_); focus decide) | ((with_reducible refine qif_f ?_ ?_); focus decide) | (with_reducible refine And.intro (orderOk_i ?ho) ?_; (case ho => kernel_rfl)) | ((with_reducible refine qif_t ?_ ?_); focus (simp [hil, hlk, hc1]; done)) | ((with_reducible refine qif_f ?_ ?_); focus (simp [hil, hlk, hc1]; done)) | (with_reducible first | refine qif_i (fun _ => ?_) (fun _ => ?_) | refine frcVs_i ?_ | refine frcRs_i ?_) | ((with_reducible refine qCall.pure (cB3) ?_ ?_ ?_ ?_); rotate_left 4; exact trivial; exact plT; exact plT) | ((with_reducible refine qCall.pure (cAd) ?_ ?_ ?_ ?_); rotate_left 4; exact trivial; exact plT; exact plT) | ((with_reducible refine qCall.pure (cDf) ?_ ?_ ?_ ?_); rotate_left 4; exact trivial; exact plT; exact plT) | ((with_reducible refine qCall.pure (cAi) ?_ ?_ ?_ ?_); rotate_left 4; exact trivial; exact plT; exact plT) | ((with_reducible refine qCall.pure (cDi) ?_ ?_ ?_ ?_); rotate_left 4; exact trivial; exact plT; exact plT) | (refine qCase_i (idxG rfl rfl rfl rfl rfl rfl (by omega) hrow) ?_) | (refine qCase_i (idxL rfl rfl rfl rfl rfl rfl (by omega) hrowq) ?_) | (refine qCase_i (slG' rfl rfl rfl rfl rfl rfl rfl rfl hcb hsl) ?_) | (refine qCase_i (apG' (nb := 1) rfl rfl rfl rfl rfl rfl rfl rfl rfl rfl (by decide) (ones_bytes _) (Nat.le_trans (Nat.mul_le_mul_right _ (Nat.add_le_add ltk ltd)) (by decide)) hmap) ?_)) <;> (conv => whnf))))
                  refine ⟨(i + 1, Hj, Kj), ⟨by dsimp only; omega, j2, by dsimp only; omega, hgo2⟩, by dsimp only; omega, ?_⟩
                  (refine qConv.of hB [(1, 1), (2, 2)] [(0, 0), (3, 3), (4, 4), (5, 5), (6, 6), (7, 7), (8, 8), (11, 9)] [] (by rfl) ?_; focus ((conv => whnf); (repeat (refine And.intro ?_ ?_; rotate_left; (conv => whnf))); exact trivial; all_goals (try exact andT)))
                  all_goals (try simp only [hiss, hirs])
                  all_goals (try (first | rfl | exact segs_gg rfl _ | exact segs_gg2 rfl rfl _ _ | exact bytes_cells _ | exact parts_gg rfl _ | (refine RowsRen.one ?_; (repeat (refine Cells.cons ?_ ?_; focus (first | exact .val _ | exact Ren.gg rfl _ | exact Ren.ll rfl _ | exact Ren.pgl rfl rfl _ | exact Ren.vnil _ _ | fail))); exact Cells.nil) | (refine congrArg (Value.int IntKind.i64) ?_; omega)))
                · have j3' := j3
                  rw [if_neg hc] at j3'
                  have hout : slotsOf 370 [(1, AV.ptr 1 0 0), (3, .val (.int .i64 iss)), (4, .val (.int .i64 irs)), (5, .val (.int .i64 (1 + bring t.size 500))), (6, .ptr 2 0 0), (7, .glist 6 7 (l0.map (sgG 7))), (9, gL 8 told0), (10, gL 9 (t.b.take Hj)), (11, .val (.int .i64 Kj)), (12, .val (.int .i64 k)), (13, .val (.int .i64 (i + 1 : Nat)))] = slotsOf 370 [(1, AV.ptr 1 0 0), (3, .val (.int .i64 iss)), (4, .val (.int .i64 irs)), (5, .val (.int .i64 (1 + bring t.size 500))), (6, .ptr 2 0 0), (7, .glist 6 7 (l0.map (sgG 7))), (9, gL 8 told0), (10, gL 9 (t.b.take Hi)), (11, .val (.int .i64 Kj)), (12, .val (.int .i64 k)), (13, .val (.int .i64 (i + 1 : Nat)))] := by rw [j3']
                  by_cases hc1 : d ≤ 0
                  · have hc3 : decide (IntKind.i64.wrap (0 - d) < ((m.data.map bR).length : Int)) = false := by rw [wd, decide_eq_false_iff_not, List.length_map]; omega
                    subst hE
                    ((conv => whnf); (repeat' ((first | (with_reducible first | refine qif_n ?_ | refine qif_t ‹_› ?_ | refine qif_f ‹_› ?_) | ((with_reducible refine qif_t ?_ ?_); focus decide) | ((with_reducible refine qif_f ?_ ?_); focus decide) | (with_reducible refine And.intro (orderOk_i ?ho) ?_; (case ho => kernel_rfl)) | ((with_reducible refine qif_t ?_ ?_); focus (simp [hil, hlk, hc1]; done)) | ((with_reducible refine qif_f ?_ ?_); focus (simp [hil, hlk, hc1]; done)) | (with_reducible first | refine qif_i (fun _ => ?_) (fun _ => ?_) | refine frcVs_i ?_ | refine frcRs_i ?_) | ((with_reducible refine qCall.pure (cB3) ?_ ?_ ?_ ?_); rotate_left 4; exact trivial; exact plT; exact plT) | ((with_reducible refine qCall.pure (cAd) ?_ ?_ ?_ ?_); rotate_left 4; exact trivial; exact plT; exact plT) | ((with_reducible refine qCall.pure (cDf) ?_ ?_ ?_ ?_); rotate_left 4; exact trivial; exact plT; exact plT) | ((with_reducible refine qCall.pure (cAi) ?_ ?_ ?_ ?_); rotate_left 4; exact trivial; exact plT; exact plT) | ((with_reducible refine qCall.pure (cDi) ?_ ?_ ?_ ?_); rotate_left 4; exact trivial; exact plT; exact plT) | (refine qCase_i (idxG rfl rfl rfl rfl rfl rfl (by omega) hrow) ?_) | (refine qCase_i (idxL rfl rfl rfl rfl rfl rfl (by omega) hrowq) ?_)) <;> (conv => whnf))))
                    refine ⟨(i + 1, Hj, Kj), ⟨by dsimp only; omega, j2, by dsimp only; omega, hgo2⟩, by dsimp only; omega, ?_⟩
                    dsimp only
                    rw [hout]
                    (refine qConv.of hB [(1, 1), (2, 2)] [(0, 0), (3, 3), (4, 4), (5, 5), (6, 6), (7, 7), (8, 8), (9, 9)] [] (by rfl) ?_; focus ((conv => whnf); (repeat (refine And.intro ?_ ?_; rotate_left; (conv => whnf))); exact trivial; all_goals (try exact andT)))
                    all_goals (try simp only [hiss, hirs])
                    all_goals (try (first | rfl | exact segs_gg rfl _ | exact segs_gg2 rfl rfl _ _ | exact bytes_cells _ | exact parts_gg rfl _ | (refine RowsRen.one ?_; (repeat (refine Cells.cons ?_ ?_; focus (first | exact .val _ | exact Ren.gg rfl _ | exact Ren.ll rfl _ | exact Ren.pgl rfl rfl _ | exact Ren.vnil _ _ | fail))); exact Cells.nil) | (refine congrArg (Value.int IntKind.i64) ?_; omega)))
                  · subst hE
                    ((conv => whnf); (repeat' ((first | (with_reducible first | refine qif_n ?_ | refine qif_t ‹_› ?_ | refine qif_f ‹_› ?_) | ((with_reducible refine qif_t ?_ ?_); focus decide) | ((with_reducible refine qif_f ?_ ?_); focus decide) | (with_reducible refine And.intro (orderOk_i ?ho) ?_; (case ho => kernel_rfl)) | ((with_reducible refine qif_t ?_ ?_); focus (simp [hil, hlk, hc1]; done)) | ((with_reducible refine qif_f ?_ ?_); focus (simp [hil, hlk, hc1]; done)) | (with_reducible first | refine qif_i (fun _ => ?_) (fun _ => ?_) | refine frcVs_i ?_ | refine frcRs_i ?_) | ((with_reducible refine qCall.pure (cB3) ?_ ?_ ?_ ?_); rotate_left 4; exact trivial; exact plT; exact plT) | ((with_reducible refine qCall.pure (cAd) ?_ ?_ ?_ ?_); rotate_left 4; exact trivial; exact plT; exact plT) | ((with_reducible refine qCall.pure (cDf) ?_ ?_ ?_ ?_); rotate_left 4; exact trivial; exact plT; exact plT) | ((with_reducible refine qCall.pure (cAi) ?_ ?_ ?_ ?_); rotate_left 4; exact trivial; exact plT; exact plT) | ((with_reducible refine qCall.pure (cDi) ?_ ?_ ?_ ?_); rotate_left 4; exact trivial; exact plT; exact plT) | (refine qCase_i (idxG rfl rfl rfl rfl rfl rfl (by omega) hrow) ?_) | (refine qCase_i (idxL rfl rfl rfl rfl rfl rfl (by omega) hrowq) ?_)) <;> (conv => whnf))))
                    refine ⟨(i + 1, Hj, Kj), ⟨by dsimp only; omega, j2, by dsimp only; omega, hgo2⟩, by dsimp only; omega, ?_⟩
                    dsimp only
                    rw [hout]
                    (refine qConv.of hB [(1, 1), (2, 2)] [(0, 0), (3, 3), (4, 4), (5, 5), (6, 6), (7, 7), (8, 8), (9, 9)] [] (by rfl) ?_; focus ((conv => whnf); (repeat (refine And.intro ?_ ?_; rotate_left; (conv => whnf))); exact trivial; all_goals (try exact andT)))
                    all_goals (try simp only [hiss, hirs])
                    all_goals (try (first | rfl | exact segs_gg rfl _ | exact segs_gg2 rfl rfl _ _ | exact bytes_cells _ | exact parts_gg rfl _ | (refine RowsRen.one ?_; (repeat (refine Cells.cons ?_ ?_; focus (first | exact .val _ | exact Ren.gg rfl _ | exact Ren.ll rfl _ | exact Ren.pgl rfl rfl _ | exact Ren.vnil _ _ | fail))); exact Cells.nil) | (refine congrArg (Value.int IntKind.i64) ?_; omega)))
            · have hil' : i = l0.length := by omega
              subst hil'
              rw [List.drop_of_length_le (Nat.le_refl _), hearGo] at hgo
              obtain ⟨gH, gK⟩ := Prod.mk.inj hgo
              have gH2 := congrArg List.length gH
              have gH3 : Hi = H1 := by simp at gH2; omega
              have gK3 : Ki = K1 := by omega
              subst gH3 gK3
              subst hE
              ((conv => whnf); (repeat' ((first | (with_reducible first | refine qif_n ?_ | refine qif_t ‹_› ?_ | refine qif_f ‹_› ?_) | ((with_reducible refine qif_t ?_ ?_); focus decide) | ((with_reducible refine qif_f ?_ ?_); focus decide) | (with_reducible refine And.intro (orderOk_i ?ho) ?_; (case ho => kernel_rfl)) | ((with_reducible refine qif_t ?_ ?_); focus (simp [hil]; done)) | ((with_reducible refine qif_f ?_ ?_); focus (simp [hil]; done)) | (with_reducible first | refine qif_i (fun _ => ?_) (fun _ => ?_) | refine frcVs_i ?_ | refine frcRs_i ?_)) <;> (conv => whnf))))
              refine ⟨(), trivial, ?_⟩
              (refine qConv.of hB [(1, 1), (2, 2)] [(0, 0), (3, 3), (4, 4), (5, 5), (6, 6), (7, 7), (8, 8), (9, 9)] [] (by rfl) ?_; focus ((conv => whnf); (repeat (refine And.intro ?_ ?_; rotate_left; (conv => whnf))); exact trivial; all_goals (try exact andT)))
              all_goals (try simp only [hiss, hirs])
              all_goals (try (first | rfl | exact segs_gg rfl _ | exact segs_gg2 rfl rfl _ _ | exact bytes_cells _ | exact parts_gg rfl _ | (refine RowsRen.one ?_; (repeat (refine Cells.cons ?_ ?_; focus (first | exact .val _ | exact Ren.gg rfl _ | exact Ren.ll rfl _ | exact Ren.pgl rfl rfl _ | exact Ren.vnil _ _ | fail))); exact Cells.nil) | (refine congrArg (Value.int IntKind.i64) ?_; omega)))
        rintro ⟨⟩ -
        (try dsimp only)
        have hKA : K1 ≤ t.a.length := by omega
        have hHB : H1 ≤ t.b.length := by omega
        have lH : (((t.b.take H1).map bR).length : Int) = H1 := by simp; omega
        have hgt : decide (((t.b.map bR).length : Int) < (((t.b.take H1).map bR).length : Int)) = false := by simp; omega
        have hkn : decide (((t.a.map bR).length : Int) < (K1 : Int)) = false := by simp; omega
        have hk0 : decide ((K1 : Int) < 0) = false := by simp
        have hcb1 : 0 ≤ (none : Option Int).getD 0 ∧ (none : Option Int).getD 0 ≤ (some ((((t.b.take H1).map bR).length : Int))).getD ((t.b.map bR).length : Int) ∧ (some ((((t.b.take H1).map bR).length : Int))).getD ((t.b.map bR).length : Int) ≤ (none : Option Int).getD ((t.b.map bR).length : Int) ∧ (none : Option Int).getD ((t.b.map bR).length : Int) ≤ ((t.b.map bR).length : Int) ∧ ((none : Option Int) = none ∨ (some ((((t.b.take H1).map bR).length : Int))) ≠ none) := by
          rw [Option.getD_some, Option.getD_none, Option.getD_none, lH, List.length_map]; exact ⟨by omega, by omega, by omega, by omega, .inl rfl⟩
        have hsl1 : ((t.b.map bR).drop ((none : Option Int).getD 0).toNat).take ((some ((((t.b.take H1).map bR).length : Int))).getD ((t.b.map bR).length : Int) - (none : Option Int).getD 0).toNat = (t.b.take H1).map bR := by
          rw [Option.getD_some, Option.getD_none, lH, List.map_take]; simp
        have lHx : (t.b.take H1).length ≤ 100000000 := by simp; omega
        refine qAWs.cut mixed 5 (by simp only [List.take_succ_cons, List.take_zero]; rfl) (by simp only [List.drop_succ_cons, List.drop_zero]; rfl) (by simp only [chain]; rfl) rfl (X := Int) (fun w => slotsOf 370 [(1, AV.ptr 1 0 0), (3, .val (.int .i64 iss)), (4, .val (.int .i64 irs)), (5, .val (.int .i64 (1 + bring t.size 500))), (6, .ptr 2 0 0), (7, .glist 6 7 (l0.map (sgG 7))), (9, gL 8 told0), (10, gL 9 (t.b.take H1)), (11, .val (.int .i64 K1)), (12, .val (.int .i64 k)), (16, .val (.int .i64 w))]) (fun _ => [.perm, .live ⟨6, 25, [tkR t]⟩, cnQ (cnG 3 4 5 c0), .uniq, .uniq, .uniq, .uniq, .uniq, .uniq, .uniq]) (fun w => (0 ≤ w ∧ w ≤ 65535) ∧ (50 ≤ k → w = 3000)) ?_ ?_
        · by_cases h1 : k < t.wins.length
          · have e1 : decide ((k : Int) < ((t.wins.map nR1).length : Int)) = true := by simp; omega
            have hw3 : (t.wins.map nR1)[(k : Int).toNat]? = some [.val (.int .i64 t.wins[k])] := by simp [h1, nR1]
            have cW := bring_l t.wins[k] 3000 (by decide) (by decide)
            have b := bring_bd t.wins[k] 3000 (by decide)
            generalize t.wins[k] = q2 at *
            by_cases h2 : k < 50
            · have e2 : decide ((k : Int) < 50) = true := by simp; omega
              ((conv => whnf); (repeat' ((first | (with_reducible first | refine qif_n ?_ | refine qif_t ‹_› ?_ | refine qif_f ‹_› ?_) | ((with_reducible refine qif_t ?_ ?_); focus decide) | ((with_reducible refine qif_f ?_ ?_); focus decide) | (with_reducible refine And.intro (orderOk_i ?ho) ?_; (case ho => kernel_rfl)) | ((with_reducible refine qif_t ?_ ?_); focus (simp []; done)) | ((with_reducible refine qif_f ?_ ?_); focus (simp []; done)) | (with_reducible first | refine qif_i (fun _ => ?_) (fun _ => ?_) | refine frcVs_i ?_ | refine frcRs_i ?_) | (refine qCase_i (slL' rfl rfl rfl rfl rfl rfl rfl rfl hcb1 hsl1) ?_)) <;> (conv => whnf))))
              ((with_reducible refine qCall.reads (eqBytes_l (t.b.take H1) (t.b.take H1) lHx) [(0, 0), (0, 9)] [] ?hk ?_); (case hk => rfl); (conv => whnf); (repeat (refine And.intro ?_ ?_; exact sideT; (conv => whnf))); (fail_if_success (with_reducible first | refine And.intro (eqv_i ?_) ?_ | refine And.intro (ren_i ?_) ?_)))
              ((conv => whnf); (repeat' ((first | (with_reducible first | refine qif_n ?_ | refine qif_t ‹_› ?_ | refine qif_f ‹_› ?_) | ((with_reducible refine qif_t ?_ ?_); focus decide) | ((with_reducible refine qif_f ?_ ?_); focus decide) | (with_reducible refine And.intro (orderOk_i ?ho) ?_; (case ho => kernel_rfl)) | ((with_reducible refine qif_t ?_ ?_); focus (simp []; done)) | ((with_reducible refine qif_f ?_ ?_); focus (simp []; done)) | (with_reducible first | refine qif_i (fun _ => ?_) (fun _ => ?_) | refine frcVs_i ?_ | refine frcRs_i ?_) | ((with_reducible refine qCall.pure (cW) ?_ ?_ ?_ ?_); rotate_left 4; exact trivial; exact plT; exact plT) | (refine qCase_i (idxL rfl rfl rfl rfl rfl rfl (by omega) hw3) ?_)) <;> (conv => whnf))))
              refine ⟨bring q2 3000, ⟨⟨b.1, by omega⟩, fun h => by omega⟩, ?_⟩
              (refine qConv.of hB [(1, 1), (2, 2)] [(0, 0), (3, 3), (4, 4), (5, 5), (6, 6), (7, 7), (8, 8), (9, 9)] [] (by rfl) ?_; focus ((conv => whnf); (repeat (refine And.intro ?_ ?_; rotate_left; (conv => whnf))); exact trivial; all_goals (try exact andT)))
              all_goals (try simp only [hiss, hirs])
              all_goals (try (first | rfl | exact segs_gg rfl _ | exact segs_gg2 rfl rfl _ _ | exact bytes_cells _ | exact parts_gg rfl _ | (refine RowsRen.one ?_; (repeat (refine Cells.cons ?_ ?_; focus (first | exact .val _ | exact Ren.gg rfl _ | exact Ren.ll rfl _ | exact Ren.pgl rfl rfl _ | exact Ren.vnil _ _ | fail))); exact Cells.nil) | (refine congrArg (Value.int IntKind.i64) ?_; omega)))
            · have e2 : decide ((k : Int) < 50) = false := by simp; omega
              ((conv => whnf); (repeat' ((first | (with_reducible first | refine qif_n ?_ | refine qif_t ‹_› ?_ | refine qif_f ‹_› ?_) | ((with_reducible refine qif_t ?_ ?_); focus decide) | ((with_reducible refine qif_f ?_ ?_); focus decide) | (with_reducible refine And.intro (orderOk_i ?ho) ?_; (case ho => kernel_rfl)) | ((with_reducible refine qif_t ?_ ?_); focus (simp []; done)) | ((with_reducible refine qif_f ?_ ?_); focus (simp []; done)) | (with_reducible first | refine qif_i (fun _ => ?_) (fun _ => ?_) | refine frcVs_i ?_ | refine frcRs_i ?_) | (refine qCase_i (slL' rfl rfl rfl rfl rfl rfl rfl rfl hcb1 hsl1) ?_)) <;> (conv => whnf))))
              ((with_reducible refine qCall.reads (eqBytes_l (t.b.take H1) (t.b.take H1) lHx) [(0, 0), (0, 9)] [] ?hk ?_); (case hk => rfl); (conv => whnf); (repeat (refine And.intro ?_ ?_; exact sideT; (conv => whnf))); (fail_if_success (with_reducible first | refine And.intro (eqv_i ?_) ?_ | refine And.intro (ren_i ?_) ?_)))
              ((conv => whnf); (repeat' ((first | (with_reducible first | refine qif_n ?_ | refine qif_t ‹_› ?_ | refine qif_f ‹_› ?_) | ((with_reducible refine qif_t ?_ ?_); focus decide) | ((with_reducible refine qif_f ?_ ?_); focus decide) | (with_reducible refine And.intro (orderOk_i ?ho) ?_; (case ho => kernel_rfl)) | ((with_reducible refine qif_t ?_ ?_); focus (simp []; done)) | ((with_reducible refine qif_f ?_ ?_); focus (simp []; done)) | (with_reducible first | refine qif_i (fun _ => ?_) (fun _ => ?_) | refine frcVs_i ?_ | refine frcRs_i ?_)) <;> (conv => whnf))))
              refine ⟨3000, ⟨by decide, fun _ => rfl⟩, ?_⟩
              (refine qConv.of hB [(1, 1), (2, 2)] [(0, 0), (3, 3), (4, 4), (5, 5), (6, 6), (7, 7), (8, 8), (9, 9)] [] (by rfl) ?_; focus ((conv => whnf); (repeat (refine And.intro ?_ ?_; rotate_left; (conv => whnf))); exact trivial; all_goals (try exact andT)))
              all_goals (try simp only [hiss, hirs])
              all_goals (try (first | rfl | exact segs_gg rfl _ | exact segs_gg2 rfl rfl _ _ | exact bytes_cells _ | exact parts_gg rfl _ | (refine RowsRen.one ?_; (repeat (refine Cells.cons ?_ ?_; focus (first | exact .val _ | exact Ren.gg rfl _ | exact Ren.ll rfl _ | exact Ren.pgl rfl rfl _ | exact Ren.vnil _ _ | fail))); exact Cells.nil) | (refine congrArg (Value.int IntKind.i64) ?_; omega)))
          · have e1 : decide ((k : Int) < ((t.wins.map nR1).length : Int)) = false := by simp; omega
            ((conv => whnf); (repeat' ((first | (with_reducible first | refine qif_n ?_ | refine qif_t ‹_› ?_ | refine qif_f ‹_› ?_) | ((with_reducible refine qif_t ?_ ?_); focus decide) | ((with_reducible refine qif_f ?_ ?_); focus decide) | (with_reducible refine And.intro (orderOk_i ?ho) ?_; (case ho => kernel_rfl)) | ((with_reducible refine qif_t ?_ ?_); focus (simp []; done)) | ((with_reducible refine qif_f ?_ ?_); focus (simp []; done)) | (with_reducible first | refine qif_i (fun _ => ?_) (fun _ => ?_) | refine frcVs_i ?_ | refine frcRs_i ?_) | (refine qCase_i (slL' rfl rfl rfl rfl rfl rfl rfl rfl hcb1 hsl1) ?_)) <;> (conv => whnf))))
            ((with_reducible refine qCall.reads (eqBytes_l (t.b.take H1) (t.b.take H1) lHx) [(0, 0), (0, 9)] [] ?hk ?_); (case hk => rfl); (conv => whnf); (repeat (refine And.intro ?_ ?_; exact sideT; (conv => whnf))); (fail_if_success (with_reducible first | refine And.intro (eqv_i ?_) ?_ | refine And.intro (ren_i ?_) ?_)))
            ((conv => whnf); (repeat' ((first | (with_reducible first | refine qif_n ?_ | refine qif_t ‹_› ?_ | refine qif_f ‹_› ?_) | ((with_reducible refine qif_t ?_ ?_); focus decide) | ((with_reducible refine qif_f ?_ ?_); focus decide) | (with_reducible refine And.intro (orderOk_i ?ho) ?_; (case ho => kernel_rfl)) | ((with_reducible refine qif_t ?_ ?_); focus (simp []; done)) | ((with_reducible refine qif_f ?_ ?_); focus (simp []; done)) | (with_reducible first | refine qif_i (fun _ => ?_) (fun _ => ?_) | refine frcVs_i ?_ | refine frcRs_i ?_)) <;> (conv => whnf))))
            refine ⟨3000, ⟨by decide, fun _ => rfl⟩, ?_⟩
            (refine qConv.of hB [(1, 1), (2, 2)] [(0, 0), (3, 3), (4, 4), (5, 5), (6, 6), (7, 7), (8, 8), (9, 9)] [] (by rfl) ?_; focus ((conv => whnf); (repeat (refine And.intro ?_ ?_; rotate_left; (conv => whnf))); exact trivial; all_goals (try exact andT)))
            all_goals (try simp only [hiss, hirs])
            all_goals (try (first | rfl | exact segs_gg rfl _ | exact segs_gg2 rfl rfl _ _ | exact bytes_cells _ | exact parts_gg rfl _ | (refine RowsRen.one ?_; (repeat (refine Cells.cons ?_ ?_; focus (first | exact .val _ | exact Ren.gg rfl _ | exact Ren.ll rfl _ | exact Ren.pgl rfl rfl _ | exact Ren.vnil _ _ | fail))); exact Cells.nil) | (refine congrArg (Value.int IntKind.i64) ?_; omega)))
        rintro w0 ⟨hw, hw50⟩
        (try dsimp only)
        refine qAWs.cut mixed 3 (by simp only [List.take_succ_cons, List.take_zero]; rfl) (by simp only [List.drop_succ_cons, List.drop_zero]; rfl) (by simp only [chain]; rfl) rfl (X := Nat) (fun low => slotsOf 370 [(1, AV.ptr 1 0 0), (3, .val (.int .i64 iss)), (4, .val (.int .i64 irs)), (5, .val (.int .i64 (1 + bring t.size 500))), (6, .ptr 2 0 0), (7, .glist 6 7 (l0.map (sgG 7))), (9, gL 8 told0), (10, gL 9 (t.b.take H1)), (11, .val (.int .i64 K1)), (12, .val (.int .i64 k)), (16, .val (.int .i64 w0)), (17, .val (.int .i64 (low : Int)))]) (fun _ => [.perm, .live ⟨6, 25, [tkR t]⟩, cnQ (cnG 3 4 5 c0), .uniq, .uniq, .uniq, .uniq, .uniq, .uniq, .uniq]) (fun low => low ≤ t.a.length ∧ (t.lost.length ≤ k → low = K1)) ?_ ?_
        · by_cases h1 : k < t.lost.length
          · have e1 : decide ((k : Int) < ((t.lost.map nR1).length : Int)) = true := by simp; omega
            have hl2 : (t.lost.map nR1)[(k : Int).toNat]? = some [.val (.int .i64 t.lost[k])] := by simp [h1, nR1]
            have wA : IntKind.i64.wrap (((t.a.map bR).length : Int) + 1) = ((t.a.map bR).length : Int) + 1 := IntWalk.i64_in _ (by simp; omega)
            have b := bring_bd t.lost[k] (((t.a.map bR).length : Int) + 1) (by omega)
            generalize t.lost[k] = q at *
            have cB6 : ACallL Try.prog 19 [.val (.int .i64 q), .val (.int .i64 (IntKind.i64.wrap (((t.a.map bR).length : Int) + 1)))] [.perm] (.val (.int .i64 (bring q (((t.a.map bR).length : Int) + 1)))) [.perm] := by
              rw [wA]; exact bring_l _ _ (by omega) (by simp; omega)
            obtain ⟨v, hv⟩ : ∃ v, bring q (((t.a.map bR).length : Int) + 1) = v := ⟨_, rfl⟩
            rw [hv] at cB6 b
            obtain ⟨vn, rfl⟩ : ∃ vn : Nat, v = vn := ⟨v.toNat, by omega⟩
            cases e3 : (q.tmod 5 == 0) with
            | false =>
              ((conv => whnf); (repeat' ((first | (with_reducible first | refine qif_n ?_ | refine qif_t ‹_› ?_ | refine qif_f ‹_› ?_) | ((with_reducible refine qif_t ?_ ?_); focus decide) | ((with_reducible refine qif_f ?_ ?_); focus decide) | (with_reducible refine And.intro (orderOk_i ?ho) ?_; (case ho => kernel_rfl)) | ((with_reducible refine qif_t ?_ ?_); focus (simp []; done)) | ((with_reducible refine qif_f ?_ ?_); focus (simp []; done)) | (with_reducible first | refine qif_i (fun _ => ?_) (fun _ => ?_) | refine frcVs_i ?_ | refine frcRs_i ?_) | (refine qCase_i (idxL rfl rfl rfl rfl rfl rfl (by omega) hl2) ?_)) <;> (conv => whnf))))
              refine ⟨K1, ⟨hKA, fun _ => rfl⟩, ?_⟩
              (refine qConv.of hB [(1, 1), (2, 2)] [(0, 0), (3, 3), (4, 4), (5, 5), (6, 6), (7, 7), (8, 8), (9, 9)] [] (by rfl) ?_; focus ((conv => whnf); (repeat (refine And.intro ?_ ?_; rotate_left; (conv => whnf))); exact trivial; all_goals (try exact andT)))
              all_goals (try simp only [hiss, hirs])
              all_goals (try (first | rfl | exact segs_gg rfl _ | exact segs_gg2 rfl rfl _ _ | exact bytes_cells _ | exact parts_gg rfl _ | (refine RowsRen.one ?_; (repeat (refine Cells.cons ?_ ?_; focus (first | exact .val _ | exact Ren.gg rfl _ | exact Ren.ll rfl _ | exact Ren.pgl rfl rfl _ | exact Ren.vnil _ _ | fail))); exact Cells.nil) | (refine congrArg (Value.int IntKind.i64) ?_; omega)))
            | true =>
              ((conv => whnf); (repeat' ((first | (with_reducible first | refine qif_n ?_ | refine qif_t ‹_› ?_ | refine qif_f ‹_› ?_) | ((with_reducible refine qif_t ?_ ?_); focus decide) | ((with_reducible refine qif_f ?_ ?_); focus decide) | (with_reducible refine And.intro (orderOk_i ?ho) ?_; (case ho => kernel_rfl)) | ((with_reducible refine qif_t ?_ ?_); focus (simp []; done)) | ((with_reducible refine qif_f ?_ ?_); focus (simp []; done)) | (with_reducible first | refine qif_i (fun _ => ?_) (fun _ => ?_) | refine frcVs_i ?_ | refine frcRs_i ?_) | ((with_reducible refine qCall.pure (cB6) ?_ ?_ ?_ ?_); rotate_left 4; exact trivial; exact plT; exact plT) | (refine qCase_i (idxL rfl rfl rfl rfl rfl rfl (by omega) hl2) ?_)) <;> (conv => whnf))))
              refine ⟨vn, ⟨by rw [List.length_map] at b; omega, fun h => by omega⟩, ?_⟩
              (refine qConv.of hB [(1, 1), (2, 2)] [(0, 0), (3, 3), (4, 4), (5, 5), (6, 6), (7, 7), (8, 8), (9, 9)] [] (by rfl) ?_; focus ((conv => whnf); (repeat (refine And.intro ?_ ?_; rotate_left; (conv => whnf))); exact trivial; all_goals (try exact andT)))
              all_goals (try simp only [hiss, hirs])
              all_goals (try (first | rfl | exact segs_gg rfl _ | exact segs_gg2 rfl rfl _ _ | exact bytes_cells _ | exact parts_gg rfl _ | (refine RowsRen.one ?_; (repeat (refine Cells.cons ?_ ?_; focus (first | exact .val _ | exact Ren.gg rfl _ | exact Ren.ll rfl _ | exact Ren.pgl rfl rfl _ | exact Ren.vnil _ _ | fail))); exact Cells.nil) | (refine congrArg (Value.int IntKind.i64) ?_; omega)))
          · have e1 : decide ((k : Int) < ((t.lost.map nR1).length : Int)) = false := by simp; omega
            ((conv => whnf); (repeat' ((first | (with_reducible first | refine qif_n ?_ | refine qif_t ‹_› ?_ | refine qif_f ‹_› ?_) | ((with_reducible refine qif_t ?_ ?_); focus decide) | ((with_reducible refine qif_f ?_ ?_); focus decide) | (with_reducible refine And.intro (orderOk_i ?ho) ?_; (case ho => kernel_rfl)) | ((with_reducible refine qif_t ?_ ?_); focus (simp []; done)) | ((with_reducible refine qif_f ?_ ?_); focus (simp []; done)) | (with_reducible first | refine qif_i (fun _ => ?_) (fun _ => ?_) | refine frcVs_i ?_ | refine frcRs_i ?_)) <;> (conv => whnf))))
            refine ⟨K1, ⟨hKA, fun _ => rfl⟩, ?_⟩
            (refine qConv.of hB [(1, 1), (2, 2)] [(0, 0), (3, 3), (4, 4), (5, 5), (6, 6), (7, 7), (8, 8), (9, 9)] [] (by rfl) ?_; focus ((conv => whnf); (repeat (refine And.intro ?_ ?_; rotate_left; (conv => whnf))); exact trivial; all_goals (try exact andT)))
            all_goals (try simp only [hiss, hirs])
            all_goals (try (first | rfl | exact segs_gg rfl _ | exact segs_gg2 rfl rfl _ _ | exact bytes_cells _ | exact parts_gg rfl _ | (refine RowsRen.one ?_; (repeat (refine Cells.cons ?_ ?_; focus (first | exact .val _ | exact Ren.gg rfl _ | exact Ren.ll rfl _ | exact Ren.pgl rfl rfl _ | exact Ren.vnil _ _ | fail))); exact Cells.nil) | (refine congrArg (Value.int IntKind.i64) ?_; omega)))
        rintro low ⟨hlow, hlowK⟩
        (try dsimp only)
        have w1h : IntKind.i64.wrap (1 + (((t.b.take H1).map bR).length : Int)) = 1 + (H1 : Int) := by rw [lH, IntWalk.i64_in _ (by omega)]
        have cAd : ACallL Try.prog 11 [.val (.int .i64 iss), .val (.int .i64 (IntKind.i64.wrap (1 + (((t.b.take H1).map bR).length : Int))))] [.perm] (.val (.int .i64 (wadd iss (1 + (H1 : Int))))) [.perm] := by rw [w1h]; exact refAdd_l _ _
        have cA1 : ACallL Try.prog 11 [.val (.int .i64 irs), .val (.int .i64 (IntKind.i64.wrap (1 + (low : Int))))] [.perm] (.val (.int .i64 (wadd irs (1 + (low : Int))))) [.perm] := by
          rw [IntWalk.i64_in _ (by omega)]; exact refAdd_l _ _
        have hk400 : k < 400 := by omega
        have hfit := psg_fits (A := t.a) (iss := iss) (irs := irs) hI.k hw (size := (1 + bring t.size 500).toNat) (low := low) (H1 := H1) (by omega)
        have hlostF : max t.lost.length 50 ≤ k → lost = (fun _ => false) := fun h => funext fun i => by
          rw [hlost, show decide ((k : Int) < ((t.lost.map nR1).length : Int)) = false by simp; omega, Bool.false_and]
        have hnx := talk_next hA hb3 (size := (1 + bring t.size 500).toNat) (by omega) (by omega) hx lost hHB a5 hlow hw (fun h => ⟨hlostF h, hlowK (by omega), hw50 (by omega)⟩)
        have cT0 := tcpTake_l c0 (psg t.a iss irs w0 (1 + bring t.size 500).toNat low H1) ((cnB_iff _).2 hI.k.I) hfit
        have hyl := (take_S hI.k.I (by unfold fitsB at hfit; simp only [Bool.and_eq_true] at hfit; exact hfit.1)).cnt
        obtain ⟨T1, U1, N1, y, hy, b1, b2, b3, b4, bI, b6, -, -, -, -, -, -⟩ := rest w0 low (1 + bring t.size 500).toNat hw hlow (by omega)
        dsimp only at hy hnx b6
        rw [hy] at hnx cT0 hyl
        clear rest a6 hx hfit
        unfold psg at cT0
        obtain ⟨xs, hxs⟩ : ∃ xs, (t.a.drop low).take (1 + bring t.size 500).toNat = xs := ⟨_, rfl⟩
        have lxs : xs.length ≤ 100000000 := by rw [← hxs]; simp; omega
        rw [hxs] at cT0
        have cT' : ACallL Try.prog 10 [.agg (cnR 0 c0), .agg (sgR 0 ⟨3, 4, wadd irs (1 + (low : Int)), wadd iss (1 + (H1 : Int)), 16, w0, xs⟩)] [.perm] (.tup [.agg (cnG 1 2 3 y.c), .glist 4 7 (y.out.map (sgG 5)), gL 6 y.told, .val (.int .i64 0)]) [.perm, .uniq, .uniq, .uniq, .uniq, .uniq, .uniq] := cT0
        have cTi := tcpTick_l y.c ((cnB_iff _).2 bI.I)
        have hzl := (tick_I bI.I).2.cnt
        obtain ⟨z, hz⟩ : ∃ z, y.c.ticks = z := ⟨_, rfl⟩
        rw [hz] at cTi hnx hzl
        have hT1 : T1 ≤ t.a.length := bI.inv.tle
        have hwS : IntKind.i64.wrap ((low : Int) + (1 + bring t.size 500)) = (low : Int) + (1 + bring t.size 500) := IntWalk.i64_in _ (by omega)
        have hcb2 : 0 ≤ (some (low : Int)).getD 0 ∧ (some (low : Int)).getD 0 ≤ (some (min (IntKind.i64.wrap ((low : Int) + (1 + bring t.size 500))) ((t.a.map bR).length : Int))).getD ((t.a.map bR).length : Int) ∧ (some (min (IntKind.i64.wrap ((low : Int) + (1 + bring t.size 500))) ((t.a.map bR).length : Int))).getD ((t.a.map bR).length : Int) ≤ (none : Option Int).getD ((t.a.map bR).length : Int) ∧ (none : Option Int).getD ((t.a.map bR).length : Int) ≤ ((t.a.map bR).length : Int) ∧ ((none : Option Int) = none ∨ (some (min (IntKind.i64.wrap ((low : Int) + (1 + bring t.size 500))) ((t.a.map bR).length : Int))) ≠ none) := by
          rw [Option.getD_some, Option.getD_some, Option.getD_none, hwS, List.length_map]; exact ⟨by omega, by omega, by omega, by omega, .inl rfl⟩
        have hsl2 : ((t.a.map bR).drop ((some (low : Int)).getD 0).toNat).take ((some (min (IntKind.i64.wrap ((low : Int) + (1 + bring t.size 500))) ((t.a.map bR).length : Int))).getD ((t.a.map bR).length : Int) - (some (low : Int)).getD 0).toNat = xs.map bR := by
          rw [Option.getD_some, Option.getD_some, hwS, ← hxs, List.map_take, List.map_drop, List.length_map, Int.toNat_natCast]
          rcases Nat.le_total (low + (1 + bring t.size 500).toNat) t.a.length with h | h
          · rw [show (min ((low : Int) + (1 + bring t.size 500)) (t.a.length : Int) - (low : Int)).toNat = (1 + bring t.size 500).toNat by omega]
          · rw [List.take_of_length_le (i := (1 + bring t.size 500).toNat) (by simp; omega), List.take_of_length_le (by simp; omega)]
        have hmap : told0.map bR ++ y.told.map bR = (t.a.take T1).map bR := by rw [← List.map_append, b6]
        have ltd : (told0.map bR).length + (y.told.map bR).length ≤ 3000 := by have := congrArg List.length hmap; rw [List.length_append] at this; rw [this]; simp; omega
        have lT : (((t.a.take T1).map bR).length : Int) = T1 := by simp; omega
        have hgt2 : decide (((t.a.map bR).length : Int) < (((t.a.take T1).map bR).length : Int)) = false := by simp; omega
        have hcb3 : 0 ≤ (none : Option Int).getD 0 ∧ (none : Option Int).getD 0 ≤ (some ((((t.a.take T1).map bR).length : Int))).getD ((t.a.map bR).length : Int) ∧ (some ((((t.a.take T1).map bR).length : Int))).getD ((t.a.map bR).length : Int) ≤ (none : Option Int).getD ((t.a.map bR).length : Int) ∧ (none : Option Int).getD ((t.a.map bR).length : Int) ≤ ((t.a.map bR).length : Int) ∧ ((none : Option Int) = none ∨ (some ((((t.a.take T1).map bR).length : Int))) ≠ none) := by
          rw [Option.getD_some, Option.getD_none, Option.getD_none, lT, List.length_map]; exact ⟨by omega, by omega, by omega, by omega, .inl rfl⟩
        have hsl3 : ((t.a.map bR).drop ((none : Option Int).getD 0).toNat).take ((some ((((t.a.take T1).map bR).length : Int))).getD ((t.a.map bR).length : Int) - (none : Option Int).getD 0).toNat = (t.a.take T1).map bR := by
          rw [Option.getD_some, Option.getD_none, lT, List.map_take]; simp
        have lTx : (t.a.take T1).length ≤ 100000000 := by simp; omega
        have w350 : IntKind.i64.wrap (350 + ((t.lost.map nR1).length : Int)) = 350 + ((t.lost.map nR1).length : Int) := IntWalk.i64_in _ (by simp; omega)
        dsimp only [stA, cnR, cnG, cnL, sgR, sgG, sgL] at cT' cTi
        refine qAWs.fin mixed (by simp only [chain]; rfl) ?_
        ((conv => whnf); (repeat' ((first | (with_reducible first | refine qif_n ?_ | refine qif_t ‹_› ?_ | refine qif_f ‹_› ?_) | ((with_reducible refine qif_t ?_ ?_); focus decide) | ((with_reducible refine qif_f ?_ ?_); focus decide) | (with_reducible refine And.intro (orderOk_i ?ho) ?_; (case ho => kernel_rfl)) | ((with_reducible refine qif_t ?_ ?_); focus (simp []; done)) | ((with_reducible refine qif_f ?_ ?_); focus (simp []; done)) | (with_reducible first | refine qif_i (fun _ => ?_) (fun _ => ?_) | refine frcVs_i ?_ | refine frcRs_i ?_) | ((with_reducible refine qCall.pure (cA1) ?_ ?_ ?_ ?_); rotate_left 4; exact trivial; exact plT; exact plT) | ((with_reducible refine qCall.pure (cAd) ?_ ?_ ?_ ?_); rotate_left 4; exact trivial; exact plT; exact plT) | (refine qCase_i (slL' rfl rfl rfl rfl rfl rfl rfl rfl hcb2 hsl2) ?_)) <;> (conv => whnf))))
        ((with_reducible refine qCall.fresh (fun r => gL r xs) (copyBytes_l xs lxs) [(0, 0)] [] ?hk ?_); (case hk => rfl); (conv => whnf); (repeat (refine And.intro ?_ ?_; exact sideT; (conv => whnf))); (fail_if_success (with_reducible first | refine And.intro (eqv_i ?_) ?_ | refine And.intro (ren_i ?_) ?_)))
        ((conv => whnf); (repeat' ((first | (with_reducible first | refine qif_n ?_ | refine qif_t ‹_› ?_ | refine qif_f ‹_› ?_) | ((with_reducible refine qif_t ?_ ?_); focus decide) | ((with_reducible refine qif_f ?_ ?_); focus decide) | (with_reducible refine And.intro (orderOk_i ?ho) ?_; (case ho => kernel_rfl)) | ((with_reducible refine qif_t ?_ ?_); focus (simp []; done)) | ((with_reducible refine qif_f ?_ ?_); focus (simp []; done)) | (with_reducible first | refine qif_i (fun _ => ?_) (fun _ => ?_) | refine frcVs_i ?_ | refine frcRs_i ?_)) <;> (conv => whnf))))
        ((with_reducible refine qCall.of (cT') [] [(0, 0), (0, 3), (0, 4), (0, 5), (0, 10)] [] [(1, 12), (2, 13), (3, 14), (4, 15), (5, 16), (6, 17)] [(12, .uniq), (13, .uniq), (14, .uniq), (15, .uniq), (16, .uniq), (17, .uniq)] (.tup [.agg (cnG 12 13 14 y.c), .glist 15 7 (y.out.map (sgG 16)), gL 17 y.told, .val (.int .i64 0)]) ?hk ?_); (case hk => rfl); (conv => whnf); (repeat (refine And.intro ?_ ?_; exact sideT; (conv => whnf))); (fail_if_success (with_reducible first | refine And.intro (eqv_i ?_) ?_ | refine And.intro (ren_i ?_) ?_)))
        ((conv => whnf); (repeat' ((first | (with_reducible first | refine qif_n ?_ | refine qif_t ‹_› ?_ | refine qif_f ‹_› ?_) | ((with_reducible refine qif_t ?_ ?_); focus decide) | ((with_reducible refine qif_f ?_ ?_); focus decide) | (with_reducible refine And.intro (orderOk_i ?ho) ?_; (case ho => kernel_rfl)) | ((with_reducible refine qif_t ?_ ?_); focus (simp []; done)) | ((with_reducible refine qif_f ?_ ?_); focus (simp []; done)) | (with_reducible first | refine qif_i (fun _ => ?_) (fun _ => ?_) | refine frcVs_i ?_ | refine frcRs_i ?_) | ((with_reducible refine qCall.pure (num16_l _) ?_ ?_ ?_ ?_); rotate_left 4; exact trivial; exact plT; exact plT) | (refine qCase_i (apG' (nb := 1) rfl rfl rfl rfl rfl rfl rfl rfl rfl rfl (by decide) (ones_bytes _) (Nat.le_trans (Nat.mul_le_mul_right _ ltd) (by decide)) hmap) ?_) | (refine qCase_i (slL' rfl rfl rfl rfl rfl rfl rfl rfl hcb3 hsl3) ?_)) <;> (conv => whnf))))
        ((with_reducible refine qCall.reads (eqBytes_l (t.a.take T1) (t.a.take T1) lTx) [(0, 0), (0, 19)] [] ?hk ?_); (case hk => rfl); (conv => whnf); (repeat (refine And.intro ?_ ?_; exact sideT; (conv => whnf))); (fail_if_success (with_reducible first | refine And.intro (eqv_i ?_) ?_ | refine And.intro (ren_i ?_) ?_)))
        ((conv => whnf); (repeat' ((first | (with_reducible first | refine qif_n ?_ | refine qif_t ‹_› ?_ | refine qif_f ‹_› ?_) | ((with_reducible refine qif_t ?_ ?_); focus decide) | ((with_reducible refine qif_f ?_ ?_); focus decide) | (with_reducible refine And.intro (orderOk_i ?ho) ?_; (case ho => kernel_rfl)) | ((with_reducible refine qif_t ?_ ?_); focus (simp []; done)) | ((with_reducible refine qif_f ?_ ?_); focus (simp []; done)) | (with_reducible first | refine qif_i (fun _ => ?_) (fun _ => ?_) | refine frcVs_i ?_ | refine frcRs_i ?_) | ((with_reducible refine qCall.pure (num16_l _) ?_ ?_ ?_ ?_); rotate_left 4; exact trivial; exact plT; exact plT)) <;> (conv => whnf))))
        ((with_reducible refine qCall.of (cTi) [] [(0, 0), (0, 12), (0, 13), (0, 14)] [] [(1, 20), (2, 21), (3, 22), (4, 23), (5, 24)] [(20, .uniq), (21, .uniq), (22, .uniq), (23, .uniq), (24, .uniq)] (.tup [.agg (cnG 20 21 22 z.c), .glist 23 7 (z.out.map (sgG 24)), .val (.int .i64 0)]) ?hk ?_); (case hk => rfl); (conv => whnf); (repeat (refine And.intro ?_ ?_; exact sideT; (conv => whnf))); (fail_if_success (with_reducible first | refine And.intro (eqv_i ?_) ?_ | refine And.intro (ren_i ?_) ?_)))
        rcases hnx with hnx | ⟨hst0, hk75⟩
        · rw [b6] at hnx
          obtain ⟨T2, U2, N2, H2, K2, hI2, -, -, -⟩ := id hnx
          have hst2 : z.c.st = 2 := hI2.k.st
          have hll : (y.out ++ z.out).length ≤ 20000 := by rw [List.length_append]; omega
          have hllm : (y.out.map (sgG 16)).length + (z.out.map (sgG 24)).length ≤ 20000 := by simpa using hll
          obtain ⟨g1, hg1⟩ : ∃ b, ((((t.a.take T1).map bR).length : Int) == ((t.a.map bR).length : Int)) = b := ⟨_, rfl⟩
          obtain ⟨g2, hg2⟩ : ∃ b, ((((t.b.take H1).map bR).length : Int) == ((t.b.map bR).length : Int)) = b := ⟨_, rfl⟩
          obtain ⟨g3, hg3⟩ : ∃ b, decide (((t.lost.map nR1).length : Int) < (k : Int)) = b := ⟨_, rfl⟩
          by_cases hend : g1 = true ∧ g2 = true ∧ g3 = true
          · obtain ⟨e1, e2, e3⟩ := hend
            subst e1 e2 e3
            subst hE1
            subst hE0
            ((conv => whnf); (repeat' ((first | (with_reducible first | refine qif_n ?_ | refine qif_t ‹_› ?_ | refine qif_f ‹_› ?_) | ((with_reducible refine qif_t ?_ ?_); focus decide) | ((with_reducible refine qif_f ?_ ?_); focus decide) | (with_reducible refine And.intro (orderOk_i ?ho) ?_; (case ho => kernel_rfl)) | ((with_reducible refine qif_t ?_ ?_); focus (simp [hst2]; done)) | ((with_reducible refine qif_f ?_ ?_); focus (simp [hst2]; done)) | (with_reducible first | refine qif_i (fun _ => ?_) (fun _ => ?_) | refine frcVs_i ?_ | refine frcRs_i ?_) | ((with_reducible refine qCall.pure (num16_l _) ?_ ?_ ?_ ?_); rotate_left 4; exact trivial; exact plT; exact plT) | (refine qCase_i (apG (nb := 72) rfl rfl rfl rfl rfl rfl rfl rfl rfl rfl (by decide) (ones_segs _ _) (Nat.le_trans (Nat.mul_le_mul_right _ hllm) (by decide))) ?_) | ((with_reducible refine qCall.pure (wakes16_l) ?_ ?_ ?_ ?_); rotate_left 4; exact trivial; exact plT; exact plT)) <;> (conv => whnf))))
            all_goals first | ((refine qConv.of hB [] [(0, 0)] [] (by rfl) ?_; focus ((conv => whnf); (repeat (refine And.intro ?_ ?_; rotate_left; (conv => whnf))); exact trivial; all_goals (try exact andT))); all_goals rfl; done) | fail
          · have hnext : ∃ y', (y'.1 ≤ 400 ∧ y'.2.l.length ≤ 20000 ∧ TalkAt t.a t.b iss irs (1 + bring t.size 500).toNat (max t.lost.length 50) y'.1 y'.2) ∧ 400 - y'.1 < 400 - k ∧ y' = ((k + 1, ⟨z.c, y.out ++ z.out, t.a.take T1, t.b.take H1, K1⟩) : Nat × TW) := ⟨_, ⟨by dsimp only; omega, hll, hnx⟩, by dsimp only; omega, rfl⟩
            clear hnx hI2
            have hgo : ((((t.a.take T1).map bR).length : Int) == ((t.a.map bR).length : Int)) = false ∨ ((((t.a.take T1).map bR).length : Int) == ((t.a.map bR).length : Int)) = true ∧ ((((t.b.take H1).map bR).length : Int) == ((t.b.map bR).length : Int)) = false ∨ ((((t.a.take T1).map bR).length : Int) == ((t.a.map bR).length : Int)) = true ∧ ((((t.b.take H1).map bR).length : Int) == ((t.b.map bR).length : Int)) = true ∧ decide (((t.lost.map nR1).length : Int) < (k : Int)) = false := by
              rw [hg1, hg2, hg3]
              cases g1 <;> cases g2 <;> cases g3 <;> simp_all
            clear hg1 hg2 hg3
            subst hE1
            subst hE0
            rcases hgo with v1 | ⟨v1, v2⟩ | ⟨v1, v2, v3⟩
            all_goals ((conv => whnf); (repeat' ((first | (with_reducible first | refine qif_n ?_ | refine qif_t ‹_› ?_ | refine qif_f ‹_› ?_) | ((with_reducible refine qif_t ?_ ?_); focus decide) | ((with_reducible refine qif_f ?_ ?_); focus decide) | (with_reducible refine And.intro (orderOk_i ?ho) ?_; (case ho => kernel_rfl)) | ((with_reducible refine qif_t ?_ ?_); focus (simp [hst2]; done)) | ((with_reducible refine qif_f ?_ ?_); focus (simp [hst2]; done)) | (with_reducible first | refine qif_i (fun _ => ?_) (fun _ => ?_) | refine frcVs_i ?_ | refine frcRs_i ?_) | ((with_reducible refine qCall.pure (num16_l _) ?_ ?_ ?_ ?_); rotate_left 4; exact trivial; exact plT; exact plT) | (refine qCase_i (apG (nb := 72) rfl rfl rfl rfl rfl rfl rfl rfl rfl rfl (by decide) (ones_segs _ _) (Nat.le_trans (Nat.mul_le_mul_right _ hllm) (by decide))) ?_) | (refine qRest.go mixed (by simp only [chain]; rfl) ?_)) <;> (conv => whnf))))
            all_goals obtain ⟨y', q1, q2, rfl⟩ := hnext
            all_goals refine ⟨_, q1, q2, ?_⟩
            all_goals (refine qConv.of hB [(1, 1), (2, 2)] [(0, 0), (20, 3), (21, 4), (22, 5), (26, 6), (16, 7), (24, 7), (19, 8), (9, 9)] [] (by rfl) ?_; focus ((conv => whnf); (repeat (refine And.intro ?_ ?_; rotate_left; (conv => whnf))); exact trivial; all_goals (try exact andT)))
            all_goals (try simp only [hiss, hirs])
            all_goals (try (first | rfl | exact segs_gg rfl _ | exact segs_gg2 rfl rfl _ _ | exact bytes_cells _ | exact parts_gg rfl _ | (refine RowsRen.one ?_; (repeat (refine Cells.cons ?_ ?_; focus (first | exact .val _ | exact Ren.gg rfl _ | exact Ren.ll rfl _ | exact Ren.pgl rfl rfl _ | exact Ren.vnil _ _ | fail))); exact Cells.nil) | (refine congrArg (Value.int IntKind.i64) ?_; omega)))
        · subst hE1
          subst hE0
          have hk350 : decide ((k : Int) < IntKind.i64.wrap (350 + ((t.lost.map nR1).length : Int))) = true := by rw [w350, decide_eq_true_eq, List.length_map]; omega
          ((conv => whnf); (repeat' ((first | (with_reducible first | refine qif_n ?_ | refine qif_t ‹_› ?_ | refine qif_f ‹_› ?_) | ((with_reducible refine qif_t ?_ ?_); focus decide) | ((with_reducible refine qif_f ?_ ?_); focus decide) | (with_reducible refine And.intro (orderOk_i ?ho) ?_; (case ho => kernel_rfl)) | ((with_reducible refine qif_t ?_ ?_); focus (simp [hst0]; done)) | ((with_reducible refine qif_f ?_ ?_); focus (simp [hst0]; done)) | (with_reducible first | refine qif_i (fun _ => ?_) (fun _ => ?_) | refine frcVs_i ?_ | refine frcRs_i ?_) | ((with_reducible refine qCall.pure (num16_l _) ?_ ?_ ?_ ?_); rotate_left 4; exact trivial; exact plT; exact plT) | ((with_reducible refine qCall.pure (wakes16_l) ?_ ?_ ?_ ?_); rotate_left 4; exact trivial; exact plT; exact plT)) <;> (conv => whnf))))
          all_goals ((refine qConv.of hB [] [(0, 0)] [] (by rfl) ?_; focus ((conv => whnf); (repeat (refine And.intro ?_ ?_; rotate_left; (conv => whnf))); exact trivial; all_goals (try exact andT))); all_goals rfl; done)
      · have hk4 : k = 400 := by omega
        subst hk4
        have w6 := IntWalk.i64_in (150 * (1 + bring t.size 500)) (by omega)
        have hend : (decide (100 < ((t.lost.map nR1).length : Int)) || (decide (IntKind.i64.wrap (150 * (1 + bring t.size 500)) < ((t.a.map bR).length : Int)) || ((((x.told.map bR).length : Int) == ((t.a.map bR).length : Int)) && (((x.heard.map bR).length : Int) == ((t.b.map bR).length : Int))))) = true := by
          by_cases h1 : 100 < t.lost.length
          · have : decide (100 < ((t.lost.map nR1).length : Int)) = true := by simp; omega
            rw [this]; rfl
          · by_cases h2 : 150 * (1 + bring t.size 500).toNat < t.a.length
            · have : decide (IntKind.i64.wrap (150 * (1 + bring t.size 500)) < ((t.a.map bR).length : Int)) = true := by rw [w6, decide_eq_true_eq]; simp; omega
              rw [this]; simp
            · obtain ⟨e1, e2⟩ := talk_end (by omega) (by omega) (by omega) hx
              rw [e1, e2]; simp
        have hend' : decide (100 < ((t.lost.map nR1).length : Int)) = true ∨ decide (100 < ((t.lost.map nR1).length : Int)) = false ∧ decide (IntKind.i64.wrap (150 * (1 + bring t.size 500)) < ((t.a.map bR).length : Int)) = true ∨ decide (100 < ((t.lost.map nR1).length : Int)) = false ∧ decide (IntKind.i64.wrap (150 * (1 + bring t.size 500)) < ((t.a.map bR).length : Int)) = false ∧ ((((x.told.map bR).length : Int) == ((t.a.map bR).length : Int))) = true ∧ ((((x.heard.map bR).length : Int) == ((t.b.map bR).length : Int))) = true := by
          revert hend
          generalize decide (100 < ((t.lost.map nR1).length : Int)) = v1
          generalize decide (IntKind.i64.wrap (150 * (1 + bring t.size 500)) < ((t.a.map bR).length : Int)) = v2
          generalize ((((x.told.map bR).length : Int) == ((t.a.map bR).length : Int))) = v3
          generalize ((((x.heard.map bR).length : Int) == ((t.b.map bR).length : Int))) = v4
          cases v1 <;> cases v2 <;> cases v3 <;> cases v4 <;> decide
        clear hend
        refine qAWs.fin mixed (by simp only [chain]; rfl) ?_
        subst hE0
        rcases hend' with q1 | ⟨q1, q2⟩ | ⟨q1, q2, q3, q4⟩
        all_goals ((conv => whnf); (repeat' ((first | (with_reducible first | refine qif_n ?_ | refine qif_t ‹_› ?_ | refine qif_f ‹_› ?_) | ((with_reducible refine qif_t ?_ ?_); focus decide) | ((with_reducible refine qif_f ?_ ?_); focus decide) | (with_reducible refine And.intro (orderOk_i ?ho) ?_; (case ho => kernel_rfl)) | ((with_reducible refine qif_t ?_ ?_); focus (simp [hlt]; done)) | ((with_reducible refine qif_f ?_ ?_); focus (simp [hlt]; done)) | (with_reducible first | refine qif_i (fun _ => ?_) (fun _ => ?_) | refine frcVs_i ?_ | refine frcRs_i ?_) | ((with_reducible refine qCall.pure (wakes16_l) ?_ ?_ ?_ ?_); rotate_left 4; exact trivial; exact plT; exact plT)) <;> (conv => whnf))))
        all_goals ((refine qConv.of hB [] [(0, 0)] [] (by rfl) ?_; focus ((conv => whnf); (repeat (refine And.intro ?_ ?_; rotate_left; (conv => whnf))); exact trivial; all_goals (try exact andT))); all_goals rfl; done)
end Go.Proofs.Ythkjiihphdpagaa

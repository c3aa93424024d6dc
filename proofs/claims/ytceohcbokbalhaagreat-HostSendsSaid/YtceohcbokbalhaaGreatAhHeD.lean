/- An act on both hosts: what stands ahead of the act, and behind it: on data. Conditions: lengths. -/
import Derived.Test.YtceohcbokbalhaaGreatPkAQ
import Derived.Test.YtceohcbokbalhaaGreatPkAS
import Derived.Test.YtceohcbokbalhaaGreatPkAT
import Derived.Test.YtceohcbokbalhaaGreatPkAU
-- sideX: first | exact cns_bor rfl rfl rfl _ rfl | exact hsRow_r rfl rfl rfl (cns_pp rfl rfl rfl _) (sns_rr rfl _) (hds_rr rfl _)
namespace Go.Proofs.YtceohcbokbalhaaGreat
open Go.RowKit
set_option linter.unusedVariables false
set_option linter.unusedSimpArgs false
set_option maxRecDepth 100000
set_option maxHeartbeats 16000000
def linkOf (h : Ho) (a : Act7) : Int := bif a.fit && decide (0 < (h.conns.length : Int)) then (h.conns.getD (bring a.link h.conns.length).toNat cnZ).link else a.link
structure HsLen (z : Hs) : Prop where
  conns : z.h.conns.length ≤ 8
  ok : ∀ c ∈ z.h.conns, CnLen c
  out : z.out.length ≤ 100000
  data : ∀ p ∈ z.out, p.2.data.length ≤ 1000
  heard : z.heard.length ≤ 1000
  told : ∀ x ∈ z.heard, x.data.length ≤ 2048
section
variable {L I F : Prs} {h : Hp}
theorem Ren.lR {b b' sz : Nat} {rows rows' : List (List AV)} (hb : I.has b b' = true) (hr : RowsRen (qOf L I F) h rows rows') : Ren (qOf L I F) h (.list b sz rows) (.list b' sz rows') :=
  .list _ _ _ _ _ ((Prs.has_iff I _ _).1 hb) hr.1 hr.2.1 hr.2.2
end
abbrev hoO (row : List AV) : Own := .live ⟨2, 24, [row]⟩
def spineF (fn : Func) : List Code := match fn.body with | some c => spine c | none => []
theorem qAWs.ofF {P : Program} {B : Base} {fn : Func} {c : Code} (hb : fn.body = some c) {L L2 : List Code} (hL : spine c = L) (k : Nat) (e2 : L.drop k = L2) {Q : AExit → List AV → List Own → Prop} {sl : List AV} {h : List Own} (H : qAWs P B L2 Q sl h) : qAWs P B ((spineF fn).drop k) Q sl h := by
  subst hL e2; unfold spineF; rw [hb]; exact H
theorem qAWs.toF {P : Program} {B : Base} {fn : Func} {c : Code} (hb : fn.body = some c) {L L2 : List Code} (hL : spine c = L) (k : Nat) (e2 : L.drop k = L2) {Q : AExit → List AV → List Own → Prop} {sl : List AV} {h : List Own} (H : qAWs P B ((spineF fn).drop k) Q sl h) : qAWs P B L2 Q sl h := by
  subst hL e2; unfold spineF at H; rw [hb] at H; exact H
abbrev stF (may : Bool) (lk k : Int) : List AV := slotsOf 224 [(2, .ptr 5 0 0), (3, .ptr 6 0 0), (4, .ptr 7 0 0), (5, .val (.bool false)), (6, .ptr 12 0 0), (7, .val (.bool may)), (8, .ptr 13 0 0), (9, .val (.int .i64 1)), (10, .ptr 14 0 0), (11, .val (.slice none 0 0)), (12, .val (.slice none 0 0)), (13, .val (.int .i64 0)), (14, .val (.int .i64 lk)), (49, .val (.int .i64 k))]
abbrev hoL (l : List Cn) (count : Int) : Own := hoO [.list 1 16 (l.map (cnP 2 3 4)), .val (.int .i64 count)]
abbrev hoN : Own := hoO [.val (.slice none 0 0), .val (.int .i64 0)]
abbrev stG (l : List Cn) (count : Int) (a : Act7) : List Own := [.perm, .perm, .perm, .perm, .perm, hoL l count, .live ⟨13, 41, [alR 0 a]⟩, hoN, .uniq, .uniq, .uniq, .uniq, hoO [.glist 8 16 (l.map (cnG 9 10 11)), .val (.int .i64 count)], hsO [.val (.slice none 0 0), .val (.int .i64 0), .val (.slice none 0 0), .val (.slice none 0 0)], hoN]
abbrev okF (zo : List (Int × Sg)) (zd : List Hd) : List AV := slotsOf 224 [(2, .ptr 5 0 0), (4, .ptr 6 0 0), (5, .val (.bool false)), (6, .ptr 11 0 0), (8, .ptr 12 0 0), (9, .val (.int .i64 0)), (10, .ptr 21 0 0), (11, .glist 26 8 (zo.map (snG 27))), (12, .glist 28 3 (zd.map (hdG 29))), (13, .val (.int .i64 0))]
abbrev okG (l : List Cn) (count : Int) (zl : List Cn) (zc : Int) (zo : List (Int × Sg)) (zd : List Hd) : List Own := [.perm, .perm, .perm, .perm, .perm, hoL l count, hoN, .uniq, .uniq, .uniq, .uniq, hoO [.glist 7 16 (l.map (cnG 8 9 10)), .val (.int .i64 count)], hsO (hsRow 13 14 15 16 17 18 19 20 ⟨⟨zl, zc⟩, zo, zd⟩), .uniq, .uniq, .uniq, .uniq, .uniq, .uniq, .uniq, .uniq, hoO [.glist 22 16 (zl.map (cnG 23 24 25)), .val (.int .i64 zc)], .uniq, .uniq, .uniq, .uniq, .uniq, .uniq, .uniq, .uniq]
abbrev qEnd (B : Base) (res : AV) (L1 : List Own) : AExit → List AV → List Own → Prop := evEnd Tryz.prog B [.cell 4 24, .tmp 5] res L1
theorem dt_AhHeD_ROWS {p : Prop} (h : p := by first | ((first | rfl | exact hs0_vg rfl (cns_gp rfl rfl rfl _) | exact RowsRen.one (.cons (Ren.glR rfl (cns_gp rfl rfl rfl _)) (.cons (.val _) .nil)) | exact RowsRen.one (.cons (Ren.glR rfl (cns_gg rfl rfl rfl _)) (.cons (.val _) .nil)) | exact hsRow_r rfl rfl rfl (cns_pp rfl rfl rfl _) (sns_rr rfl _) (hds_rr rfl _) | exact RowsRen.one (.cons (Ren.glR rfl (cns_pp rfl rfl rfl _)) (.cons (.val _) .nil)) | exact RowsRen.one (.cons (Ren.lR rfl (cns_pp rfl rfl rfl _)) (.cons (.val _) .nil)) | exact sns_gg rfl _ | (refine RowsRen.one ?_; (repeat (refine Cells.cons ?_ ?_; focus (first | exact .val _ | exact Ren.ll rfl _ | fail))); exact Cells.nil) | (exact rowsT)); done) | fail) : p := h
theorem step7H_l (l : List Cn) (count : Int) (a : Act7) (res : AV) (L1 : List Own) (hll : l.length ≤ 3000) (hc : ∀ c ∈ l, CnLen c)
    (H : ∀ B : Base, B.h = ofL [.perm, .perm, .perm, .perm, .perm] → qAWs Tryz.prog B ((spineF Tryz.f15).drop 13) (qEnd B res L1) (stF (hostB ⟨l, count⟩) (linkOf ⟨l, count⟩ a) (bring a.dw 14)) (stG l count a)) :
    ACallL Tryz.prog 15 [.agg [.list 1 16 (l.map (cnP 2 3 4)), .val (.int .i64 count)], .agg (alR 0 a)] [.perm, .perm, .perm, .perm, .perm] res L1 := by
  have pz := pl_bytes a.s.data
  have pb := pl_bytes a.b
  have cC := copyHost_l ⟨l, count⟩ (by dsimp only; omega) hc
  dsimp only [hoR, alR, alL] at cC ⊢
  refine ACallL.of_AWs Tryz.func15 rfl (fun a w => Tryz.call15 a w) (congrArg Array.toList Tryz.results15) Tryz.ntmps15 (by simp only [spine, List.cons_append, List.nil_append, List.append_assoc]; rfl) fun B hB => ?_
  have cM := rHost_l ⟨l, count⟩ (by dsimp only; omega) hc
  have bk := bring_bd a.dw 14 (by decide)
  have cW := bring_l a.dw 14 (by decide) (by decide)
  obtain ⟨may, hmay⟩ : ∃ b, hostB ⟨l, count⟩ = b := ⟨_, rfl⟩
  rw [hmay] at cM H
  dsimp only [hoR] at cM
  obtain ⟨k, hk⟩ : ∃ k, bring a.dw 14 = k := ⟨_, rfl⟩
  rw [hk] at bk cW H
  obtain ⟨lk, hlk⟩ : ∃ v, linkOf ⟨l, count⟩ a = v := ⟨_, rfl⟩
  rw [hlk] at H
  refine qAWs.cut mixed 13 (by simp only [List.take_succ_cons, List.take_zero]; rfl) (by simp only [List.drop_succ_cons, List.drop_zero]; rfl) (by simp only [chain]; rfl) rfl (X := Unit) (fun _ => stF may lk k) (fun _ => stG l count a) (fun _ => True) ?_ ?_
  · have llen : (l.map (cnP 2 3 4)).length = l.length := by simp
    unfold linkOf at hlk
    dsimp only at hlk
    cases hf : a.fit with
    | false =>
      have ea : stG l count a = stG l count { a with fit := false } := by rw [← hf]
      rw [hf, Bool.false_and, cond_false] at hlk
      subst hlk
      ((conv => whnf); (repeat' ((first | (with_reducible first | refine qif_n ?_ | refine qif_t ‹_› ?_ | refine qif_f ‹_› ?_) | ((with_reducible refine qif_t ?_ ?_); focus decide) | ((with_reducible refine qif_f ?_ ?_); focus decide) | (with_reducible refine And.intro (orderOk_i ?ho) ?_; (case ho => kernel_rfl)) | ((with_reducible refine qif_t ?_ ?_); focus (simp []; done)) | ((with_reducible refine qif_f ?_ ?_); focus (simp []; done)) | (with_reducible first | refine qif_i (fun _ => ?_) (fun _ => ?_) | refine frcVs_i ?_ | refine frcRs_i ?_) | ((with_reducible refine qCall.pure (cW) ?_ ?_ ?_ ?_); rotate_left 4; exact trivial; exact plT; exact plT) | (((with_reducible refine qCall.reads (cM) [(0, 0), (0, 1), (0, 2), (0, 3), (0, 4)] [] ?hk ?_); (case hk => rfl); (conv => whnf); (repeat (refine And.intro ?_ ?_; (focus (first | exact sideT | (first | exact cns_bor rfl rfl rfl _ rfl | exact hsRow_r rfl rfl rfl (cns_pp rfl rfl rfl _) (sns_rr rfl _) (hds_rr rfl _)))); (conv => whnf))); (fail_if_success (with_reducible first | refine And.intro (eqv_i ?_) ?_ | refine And.intro (ren_i ?_) ?_)))) | (((with_reducible refine qCall.of (cC) [] [(0, 0), (0, 1), (0, 2), (0, 3), (0, 4)] [] [(1, 8), (2, 9), (3, 10), (4, 11)] [(8, .uniq), (9, .uniq), (10, .uniq), (11, .uniq)] (.agg [.glist 8 16 (l.map (cnG 9 10 11)), .val (.int .i64 count)]) ?hk ?_); (case hk => rfl); (conv => whnf); (repeat (refine And.intro ?_ ?_; (focus (first | exact sideT | (first | exact cns_bor rfl rfl rfl _ rfl | exact hsRow_r rfl rfl rfl (cns_pp rfl rfl rfl _) (sns_rr rfl _) (hds_rr rfl _)))); (conv => whnf))); (fail_if_success (with_reducible first | refine And.intro (eqv_i ?_) ?_ | refine And.intro (ren_i ?_) ?_))))) <;> (conv => whnf))))
      refine ⟨(), trivial, ?_⟩
      rw [ea]
      as_aux_lemma =>
        (refine qConv.of hB [(5, 5), (6, 6), (7, 7), (12, 12), (13, 13), (14, 14)] [(0, 0), (1, 1), (2, 2), (3, 3), (4, 4), (8, 8), (9, 9), (10, 10), (11, 11)] [] (by rfl) ?_; focus ((conv => whnf); (repeat (refine And.intro ?_ ?_; rotate_left; (conv => whnf))); exact trivial; all_goals (try exact andT)))
        all_goals (try exact dt_AhHeD_ROWS)
        all_goals trace_state
    | true =>
      have ea : stG l count a = stG l count { a with fit := true } := by rw [← hf]
      rw [hf, Bool.true_and] at hlk
      by_cases h0 : 0 < l.length
      · have h0' : decide (0 < ((l.map (cnP 2 3 4)).length : Int)) = true := by rw [llen]; simpa using h0
        rw [show decide (0 < (l.length : Int)) = true by simpa using h0, cond_true] at hlk
        have cB := bring_l a.link l.length (by omega) (by omega)
        have bb := bring_bd a.link l.length (by omega)
        obtain ⟨j, hj⟩ : ∃ j : Nat, bring a.link l.length = j := ⟨(bring a.link l.length).toNat, by omega⟩
        rw [hj] at cB bb hlk
        have hjl : j < l.length := by omega
        obtain ⟨c, hck⟩ : ∃ p, l[j]? = some p := ⟨_, List.getElem?_eq_getElem hjl⟩
        have hg : l.getD (j : Int).toNat cnZ = c := by simp [List.getD, hck]
        rw [hg] at hlk
        subst hlk
        have hrow : (l.map (cnP 2 3 4))[(j : Int).toNat]? = some (cnP 2 3 4 c) := by simp [hck]
        rw [← llen] at cB
        ((conv => whnf); (repeat' ((first | (with_reducible first | refine qif_n ?_ | refine qif_t ‹_› ?_ | refine qif_f ‹_› ?_) | ((with_reducible refine qif_t ?_ ?_); focus decide) | ((with_reducible refine qif_f ?_ ?_); focus decide) | (with_reducible refine And.intro (orderOk_i ?ho) ?_; (case ho => kernel_rfl)) | ((with_reducible refine qif_t ?_ ?_); focus (simp [hjl]; done)) | ((with_reducible refine qif_f ?_ ?_); focus (simp [hjl]; done)) | (with_reducible first | refine qif_i (fun _ => ?_) (fun _ => ?_) | refine frcVs_i ?_ | refine frcRs_i ?_) | ((with_reducible refine qCall.pure (cW) ?_ ?_ ?_ ?_); rotate_left 4; exact trivial; exact plT; exact plT) | ((with_reducible refine qCall.pure (cB) ?_ ?_ ?_ ?_); rotate_left 4; exact trivial; exact plT; exact plT) | (refine qCase_i (idxL rfl rfl rfl rfl rfl rfl (by omega) hrow) ?_) | (((with_reducible refine qCall.reads (cM) [(0, 0), (0, 1), (0, 2), (0, 3), (0, 4)] [] ?hk ?_); (case hk => rfl); (conv => whnf); (repeat (refine And.intro ?_ ?_; (focus (first | exact sideT | (first | exact cns_bor rfl rfl rfl _ rfl | exact hsRow_r rfl rfl rfl (cns_pp rfl rfl rfl _) (sns_rr rfl _) (hds_rr rfl _)))); (conv => whnf))); (fail_if_success (with_reducible first | refine And.intro (eqv_i ?_) ?_ | refine And.intro (ren_i ?_) ?_)))) | (((with_reducible refine qCall.of (cC) [] [(0, 0), (0, 1), (0, 2), (0, 3), (0, 4)] [] [(1, 8), (2, 9), (3, 10), (4, 11)] [(8, .uniq), (9, .uniq), (10, .uniq), (11, .uniq)] (.agg [.glist 8 16 (l.map (cnG 9 10 11)), .val (.int .i64 count)]) ?hk ?_); (case hk => rfl); (conv => whnf); (repeat (refine And.intro ?_ ?_; (focus (first | exact sideT | (first | exact cns_bor rfl rfl rfl _ rfl | exact hsRow_r rfl rfl rfl (cns_pp rfl rfl rfl _) (sns_rr rfl _) (hds_rr rfl _)))); (conv => whnf))); (fail_if_success (with_reducible first | refine And.intro (eqv_i ?_) ?_ | refine And.intro (ren_i ?_) ?_))))) <;> (conv => whnf))))
        refine ⟨(), trivial, ?_⟩
        rw [ea]
        as_aux_lemma =>
          (refine qConv.of hB [(5, 5), (6, 6), (7, 7), (12, 12), (13, 13), (14, 14)] [(0, 0), (1, 1), (2, 2), (3, 3), (4, 4), (8, 8), (9, 9), (10, 10), (11, 11)] [] (by rfl) ?_; focus ((conv => whnf); (repeat (refine And.intro ?_ ?_; rotate_left; (conv => whnf))); exact trivial; all_goals (try exact andT)))
          all_goals (try exact dt_AhHeD_ROWS)
          all_goals trace_state
      · have h0' : decide (0 < ((l.map (cnP 2 3 4)).length : Int)) = false := by rw [llen]; simpa using h0
        rw [show decide (0 < (l.length : Int)) = false by simpa using h0, cond_false] at hlk
        subst hlk
        ((conv => whnf); (repeat' ((first | (with_reducible first | refine qif_n ?_ | refine qif_t ‹_› ?_ | refine qif_f ‹_› ?_) | ((with_reducible refine qif_t ?_ ?_); focus decide) | ((with_reducible refine qif_f ?_ ?_); focus decide) | (with_reducible refine And.intro (orderOk_i ?ho) ?_; (case ho => kernel_rfl)) | ((with_reducible refine qif_t ?_ ?_); focus (simp []; done)) | ((with_reducible refine qif_f ?_ ?_); focus (simp []; done)) | (with_reducible first | refine qif_i (fun _ => ?_) (fun _ => ?_) | refine frcVs_i ?_ | refine frcRs_i ?_) | ((with_reducible refine qCall.pure (cW) ?_ ?_ ?_ ?_); rotate_left 4; exact trivial; exact plT; exact plT) | (((with_reducible refine qCall.reads (cM) [(0, 0), (0, 1), (0, 2), (0, 3), (0, 4)] [] ?hk ?_); (case hk => rfl); (conv => whnf); (repeat (refine And.intro ?_ ?_; (focus (first | exact sideT | (first | exact cns_bor rfl rfl rfl _ rfl | exact hsRow_r rfl rfl rfl (cns_pp rfl rfl rfl _) (sns_rr rfl _) (hds_rr rfl _)))); (conv => whnf))); (fail_if_success (with_reducible first | refine And.intro (eqv_i ?_) ?_ | refine And.intro (ren_i ?_) ?_)))) | (((with_reducible refine qCall.of (cC) [] [(0, 0), (0, 1), (0, 2), (0, 3), (0, 4)] [] [(1, 8), (2, 9), (3, 10), (4, 11)] [(8, .uniq), (9, .uniq), (10, .uniq), (11, .uniq)] (.agg [.glist 8 16 (l.map (cnG 9 10 11)), .val (.int .i64 count)]) ?hk ?_); (case hk => rfl); (conv => whnf); (repeat (refine And.intro ?_ ?_; (focus (first | exact sideT | (first | exact cns_bor rfl rfl rfl _ rfl | exact hsRow_r rfl rfl rfl (cns_pp rfl rfl rfl _) (sns_rr rfl _) (hds_rr rfl _)))); (conv => whnf))); (fail_if_success (with_reducible first | refine And.intro (eqv_i ?_) ?_ | refine And.intro (ren_i ?_) ?_))))) <;> (conv => whnf))))
        refine ⟨(), trivial, ?_⟩
        rw [ea]
        as_aux_lemma =>
          (refine qConv.of hB [(5, 5), (6, 6), (7, 7), (12, 12), (13, 13), (14, 14)] [(0, 0), (1, 1), (2, 2), (3, 3), (4, 4), (8, 8), (9, 9), (10, 10), (11, 11)] [] (by rfl) ?_; focus ((conv => whnf); (repeat (refine And.intro ?_ ?_; rotate_left; (conv => whnf))); exact trivial; all_goals (try exact andT)))
          all_goals (try exact dt_AhHeD_ROWS)
          all_goals trace_state
  rintro ⟨⟩ -
  exact qAWs.toF (fn := Tryz.f15) rfl (by simp only [spine, List.cons_append, List.nil_append, List.append_assoc]; rfl) 13 (by simp only [List.drop_succ_cons, List.drop_zero]) (H B hB)
theorem step7T_l (l : List Cn) (count : Int) (z : Hs) (hll : l.length ≤ 3000) (hc : ∀ c ∈ l, CnLen c) (hL : HsLen z) (B : Base) (hB : B.h = ofL [.perm, .perm, .perm, .perm, .perm]) :
    qAWs Tryz.prog B ((spineF Tryz.f15).drop 14) (qEnd B (.tup [.agg [.glist 5 16 (z.h.conns.map (cnP 6 7 8)), .val (.int .i64 z.h.count)], .val (.bool true)]) [.perm, .perm, .perm, .perm, .perm, .uniq, .uniq, .uniq, .uniq]) (okF z.out z.heard) (okG l count z.h.conns z.h.count z.out z.heard) := by
  have cE := eqHost_l ⟨l, count⟩ (by dsimp only; omega) hc
  have cE2 := eqHost_l z.h (by have := hL.conns; omega) hL.ok
  have cSm := same_l z.out (by have := hL.out; omega) (fun x hx => by have := hL.data x hx; omega)
  have cHd := eqHeards_l z.heard (by have := hL.heard; omega) (fun x hx => by have := hL.told x hx; omega)
  have sH := spHost_l z.h.conns z.h.count (by have := hL.conns; omega) hL.ok
  have sD := spHeards_l z.heard (by have := hL.heard; omega) (fun x hx => by have := hL.told x hx; omega)
  obtain ⟨⟨zl, zc⟩, zo, zd⟩ := z
  dsimp only at sH cE2 cSm cHd sD
  dsimp only [hoR] at cE cE2 ⊢
  refine qAWs.ofF (fn := Tryz.f15) rfl (by simp only [spine, List.cons_append, List.nil_append, List.append_assoc]; rfl) 14 (by simp only [List.drop_succ_cons, List.drop_zero]; rfl) ?_
  -- the comparing, what is let go of
  refine qAWs.cut mixed 4 (by simp only [List.take_succ_cons, List.take_zero]; rfl) (by simp only [List.drop_succ_cons, List.drop_zero]; rfl) (by simp only [chain]; rfl) rfl (X := Unit) (fun _ => slotsOf 224 [(2, .ptr 5 0 0), (4, .ptr 6 0 0), (6, .ptr 11 0 0), (8, .ptr 12 0 0), (10, .ptr 21 0 0), (11, .glist 26 8 (zo.map (snG 27))), (12, .glist 28 3 (zd.map (hdG 29)))])
    (fun _ => [.perm, .perm, .perm, .perm, .perm, hoO [.list 1 16 (l.map (cnP 2 3 4)), .val (.int .i64 count)], hoO [.val (.slice none 0 0), .val (.int .i64 0)], .uniq, .uniq, .uniq, .uniq, hoO [.glist 7 16 (l.map (cnG 8 9 10)), .val (.int .i64 count)], hsO (hsRow 13 14 15 16 17 18 19 20 ⟨⟨zl, zc⟩, zo, zd⟩), .uniq, .uniq, .uniq, .uniq, .uniq, .uniq, .uniq, .uniq, hoO [.glist 22 16 (zl.map (cnG 23 24 25)), .val (.int .i64 zc)], .uniq, .uniq, .uniq, .uniq, .uniq, .uniq, .uniq, .uniq]) (fun _ => True) ?_ ?_
  · ((conv => whnf); (repeat' ((first | (with_reducible first | refine qif_n ?_ | refine qif_t ‹_› ?_ | refine qif_f ‹_› ?_) | ((with_reducible refine qif_t ?_ ?_); focus decide) | ((with_reducible refine qif_f ?_ ?_); focus decide) | (with_reducible refine And.intro (orderOk_i ?ho) ?_; (case ho => kernel_rfl)) | ((with_reducible refine qif_t ?_ ?_); focus (simp []; done)) | ((with_reducible refine qif_f ?_ ?_); focus (simp []; done)) | (with_reducible first | refine qif_i (fun _ => ?_) (fun _ => ?_) | refine frcVs_i ?_ | refine frcRs_i ?_) | ((with_reducible refine qCall.pure (num17_l _) ?_ ?_ ?_ ?_); rotate_left 4; exact trivial; exact plT; exact plT) | (((with_reducible refine qCall.reads (cE) [(0, 0), (0, 1), (0, 2), (0, 3), (0, 4), (0, 7), (0, 8), (0, 9), (0, 10)] [] ?hk ?_); (case hk => rfl); (conv => whnf); (repeat (refine And.intro ?_ ?_; (focus (first | exact sideT | (first | exact cns_bor rfl rfl rfl _ rfl | exact hsRow_r rfl rfl rfl (cns_pp rfl rfl rfl _) (sns_rr rfl _) (hds_rr rfl _)))); (conv => whnf))); (fail_if_success (with_reducible first | refine And.intro (eqv_i ?_) ?_ | refine And.intro (ren_i ?_) ?_))))) <;> (conv => whnf))))
    refine ⟨(), trivial, ?_⟩
    as_aux_lemma =>
      (refine qConv.of hB [(5, 5), (6, 6), (11, 11), (12, 12), (21, 21)] [(0, 0), (1, 1), (2, 2), (3, 3), (4, 4), (7, 7), (8, 8), (9, 9), (10, 10), (13, 13), (14, 14), (15, 15), (16, 16), (17, 17), (18, 18), (19, 19), (20, 20), (22, 22), (23, 23), (24, 24), (25, 25), (26, 26), (27, 27), (28, 28), (29, 29)] [] (by rfl) ?_; focus ((conv => whnf); (repeat (refine And.intro ?_ ?_; rotate_left; (conv => whnf))); exact trivial; all_goals (try exact andT)))
      all_goals (try exact dt_AhHeD_ROWS)
      all_goals trace_state
  rintro ⟨⟩ -
  (try dsimp only)
  refine qAWs.cut mixed 1 (by simp only [List.take_succ_cons, List.take_zero]; rfl) (by simp only [List.drop_succ_cons, List.drop_zero]; rfl) (by simp only [chain]; rfl) rfl (X := Unit) (fun _ => slotsOf 224 [(2, .ptr 5 0 0), (4, .ptr 6 0 0), (6, .ptr 11 0 0), (8, .ptr 12 0 0), (10, .ptr 21 0 0), (11, .glist 26 8 (zo.map (snG 27))), (12, .glist 28 3 (zd.map (hdG 29))), (18, .val (.bool true))])
    (fun _ => [.perm, .perm, .perm, .perm, .perm, hoO [.list 1 16 (l.map (cnP 2 3 4)), .val (.int .i64 count)], hoO [.val (.slice none 0 0), .val (.int .i64 0)], .uniq, .uniq, .uniq, .uniq, hoO [.glist 7 16 (l.map (cnG 8 9 10)), .val (.int .i64 count)], hsO (hsRow 13 14 15 16 17 18 19 20 ⟨⟨zl, zc⟩, zo, zd⟩), .uniq, .uniq, .uniq, .uniq, .uniq, .uniq, .uniq, .uniq, hoO [.glist 22 16 (zl.map (cnG 23 24 25)), .val (.int .i64 zc)], .uniq, .uniq, .uniq, .uniq, .uniq, .uniq, .uniq, .uniq]) (fun _ => True) ?_ ?_
  · ((conv => whnf); (repeat' ((first | (with_reducible first | refine qif_n ?_ | refine qif_t ‹_› ?_ | refine qif_f ‹_› ?_) | ((with_reducible refine qif_t ?_ ?_); focus decide) | ((with_reducible refine qif_f ?_ ?_); focus decide) | (with_reducible refine And.intro (orderOk_i ?ho) ?_; (case ho => kernel_rfl)) | ((with_reducible refine qif_t ?_ ?_); focus (simp []; done)) | ((with_reducible refine qif_f ?_ ?_); focus (simp []; done)) | (with_reducible first | refine qif_i (fun _ => ?_) (fun _ => ?_) | refine frcVs_i ?_ | refine frcRs_i ?_) | (((with_reducible refine qCall.reads (cE2) [(0, 0), (0, 13), (0, 14), (0, 15), (0, 16), (0, 22), (0, 23), (0, 24), (0, 25)] [] ?hk ?_); (case hk => rfl); (conv => whnf); (repeat (refine And.intro ?_ ?_; (focus (first | exact sideT | (first | exact cns_bor rfl rfl rfl _ rfl | exact hsRow_r rfl rfl rfl (cns_pp rfl rfl rfl _) (sns_rr rfl _) (hds_rr rfl _)))); (conv => whnf))); (fail_if_success (with_reducible first | refine And.intro (eqv_i ?_) ?_ | refine And.intro (ren_i ?_) ?_)))) | (((with_reducible refine qCall.reads (cSm) [(0, 0), (0, 17), (0, 18), (0, 26), (0, 27)] [] ?hk ?_); (case hk => rfl); (conv => whnf); (repeat (refine And.intro ?_ ?_; (focus (first | exact sideT | (first | exact cns_bor rfl rfl rfl _ rfl | exact hsRow_r rfl rfl rfl (cns_pp rfl rfl rfl _) (sns_rr rfl _) (hds_rr rfl _)))); (conv => whnf))); (fail_if_success (with_reducible first | refine And.intro (eqv_i ?_) ?_ | refine And.intro (ren_i ?_) ?_)))) | (((with_reducible refine qCall.reads (cHd) [(0, 0), (0, 19), (0, 20), (0, 28), (0, 29)] [] ?hk ?_); (case hk => rfl); (conv => whnf); (repeat (refine And.intro ?_ ?_; (focus (first | exact sideT | (first | exact cns_bor rfl rfl rfl _ rfl | exact hsRow_r rfl rfl rfl (cns_pp rfl rfl rfl _) (sns_rr rfl _) (hds_rr rfl _)))); (conv => whnf))); (fail_if_success (with_reducible first | refine And.intro (eqv_i ?_) ?_ | refine And.intro (ren_i ?_) ?_))))) <;> (conv => whnf))))
    refine ⟨(), trivial, ?_⟩
    as_aux_lemma =>
      (refine qConv.of hB [(5, 5), (6, 6), (11, 11), (12, 12), (21, 21)] [(0, 0), (1, 1), (2, 2), (3, 3), (4, 4), (7, 7), (8, 8), (9, 9), (10, 10), (13, 13), (14, 14), (15, 15), (16, 16), (17, 17), (18, 18), (19, 19), (20, 20), (22, 22), (23, 23), (24, 24), (25, 25), (26, 26), (27, 27), (28, 28), (29, 29)] [] (by rfl) ?_; focus ((conv => whnf); (repeat (refine And.intro ?_ ?_; rotate_left; (conv => whnf))); exact trivial; all_goals (try exact andT)))
      all_goals (try exact dt_AhHeD_ROWS)
      all_goals trace_state
  rintro ⟨⟩ -
  (try dsimp only)
  refine qAWs.cut mixed 2 (by simp only [List.take_succ_cons, List.take_zero]; rfl) (by simp only [List.drop_succ_cons, List.drop_zero]; rfl) (by simp only [chain]; rfl) rfl (X := Unit) (fun _ => slotsOf 224 [(2, .ptr 5 0 0), (4, .ptr 6 0 0), (6, .ptr 11 0 0), (8, .ptr 12 0 0), (11, .glist 21 8 (zo.map (snG 22))), (18, .val (.bool true))])
    (fun _ => [.perm, .perm, .perm, .perm, .perm, hoO [.list 1 16 (l.map (cnP 2 3 4)), .val (.int .i64 count)], hoO [.val (.slice none 0 0), .val (.int .i64 0)], .uniq, .uniq, .uniq, .uniq, hoO [.glist 7 16 (l.map (cnG 8 9 10)), .val (.int .i64 count)], hsO (hsRow 13 14 15 16 17 18 19 20 ⟨⟨zl, zc⟩, zo, zd⟩), .uniq, .uniq, .uniq, .uniq, .uniq, .uniq, .uniq, .uniq, .uniq, .uniq]) (fun _ => True) ?_ ?_
  · ((conv => whnf); (repeat' ((first | (with_reducible first | refine qif_n ?_ | refine qif_t ‹_› ?_ | refine qif_f ‹_› ?_) | ((with_reducible refine qif_t ?_ ?_); focus decide) | ((with_reducible refine qif_f ?_ ?_); focus decide) | (with_reducible refine And.intro (orderOk_i ?ho) ?_; (case ho => kernel_rfl)) | ((with_reducible refine qif_t ?_ ?_); focus (simp []; done)) | ((with_reducible refine qif_f ?_ ?_); focus (simp []; done)) | (with_reducible first | refine qif_i (fun _ => ?_) (fun _ => ?_) | refine frcVs_i ?_ | refine frcRs_i ?_) | (((with_reducible refine qCall.of (sH) [] [(0, 0), (1, 22), (2, 23), (3, 24), (4, 25)] [] [] [(22, .dead), (23, .dead), (24, .dead), (25, .dead)] (.tup []) ?hk ?_); (case hk => rfl); (conv => whnf); (repeat (refine And.intro ?_ ?_; (focus (first | exact sideT | (first | exact cns_bor rfl rfl rfl _ rfl | exact hsRow_r rfl rfl rfl (cns_pp rfl rfl rfl _) (sns_rr rfl _) (hds_rr rfl _)))); (conv => whnf))); (fail_if_success (with_reducible first | refine And.intro (eqv_i ?_) ?_ | refine And.intro (ren_i ?_) ?_)))) | (((with_reducible refine qCall.of (sD) [] [(0, 0), (1, 28), (2, 29)] [] [] [(28, .dead), (29, .dead)] (.tup []) ?hk ?_); (case hk => rfl); (conv => whnf); (repeat (refine And.intro ?_ ?_; (focus (first | exact sideT | (first | exact cns_bor rfl rfl rfl _ rfl | exact hsRow_r rfl rfl rfl (cns_pp rfl rfl rfl _) (sns_rr rfl _) (hds_rr rfl _)))); (conv => whnf))); (fail_if_success (with_reducible first | refine And.intro (eqv_i ?_) ?_ | refine And.intro (ren_i ?_) ?_))))) <;> (conv => whnf))))
    refine ⟨(), trivial, ?_⟩
    as_aux_lemma =>
      (refine qConv.of hB [(5, 5), (6, 6), (11, 11), (12, 12)] [(0, 0), (1, 1), (2, 2), (3, 3), (4, 4), (7, 7), (8, 8), (9, 9), (10, 10), (13, 13), (14, 14), (15, 15), (16, 16), (17, 17), (18, 18), (19, 19), (20, 20), (26, 21), (27, 22)] [] (by rfl) ?_; focus ((conv => whnf); (repeat (refine And.intro ?_ ?_; rotate_left; (conv => whnf))); exact trivial; all_goals (try exact andT)))
      all_goals (try exact dt_AhHeD_ROWS)
      all_goals trace_state
  rintro ⟨⟩ -
  (try dsimp only)
  -- the bytes of what was sent are let go of, slice by slice
  refine qAWs.cut mixed 2 (by simp only [List.take_succ_cons, List.take_zero]; rfl) (by simp only [List.drop_succ_cons, List.drop_zero]; rfl) (by simp only [chain]; rfl) rfl (X := Unit) (fun _ => slotsOf 224 [(2, .ptr 5 0 0), (4, .ptr 6 0 0), (6, .ptr 11 0 0), (8, .ptr 12 0 0), (18, .val (.bool true))])
    (fun _ => [.perm, .perm, .perm, .perm, .perm, hoO [.list 1 16 (l.map (cnP 2 3 4)), .val (.int .i64 count)], hoO [.val (.slice none 0 0), .val (.int .i64 0)], .uniq, .uniq, .uniq, .uniq, hoO [.glist 7 16 (l.map (cnG 8 9 10)), .val (.int .i64 count)], hsO (hsRow 13 14 15 16 17 18 19 20 ⟨⟨zl, zc⟩, zo, zd⟩), .uniq, .uniq, .uniq, .uniq, .uniq, .uniq, .uniq, .uniq, .uniq, .dead]) (fun _ => True) ?_ ?_
  · ((conv => whnf); (repeat' ((first | (with_reducible first | refine qif_n ?_ | refine qif_t ‹_› ?_ | refine qif_f ‹_› ?_) | ((with_reducible refine qif_t ?_ ?_); focus decide) | ((with_reducible refine qif_f ?_ ?_); focus decide) | (with_reducible refine And.intro (orderOk_i ?ho) ?_; (case ho => kernel_rfl)) | ((with_reducible refine qif_t ?_ ?_); focus (simp []; done)) | ((with_reducible refine qif_f ?_ ?_); focus (simp []; done)) | (with_reducible first | refine qif_i (fun _ => ?_) (fun _ => ?_) | refine frcVs_i ?_ | refine frcRs_i ?_)) <;> (conv => whnf))))
    refine qAW.ofD 21 22 11 rfl rfl rfl (by decide) (fun p hp => by have := hL.data p hp; omega) fun D f sd hsl => ?_
    have spB : ∀ (v : Value) (w : World), BySp D w v → Calls Tryz.prog 44 #[v] w fun e w' => e = .returned (.tuple #[]) ∧ Sp D (fun _ => False) w w' := fun v w hv => bytes_sp D (fun _ => False) (fun _ _ h => h) v w hv
    refine AD.cast (sl' := slotsOf 224 [(2, .ptr 5 0 0), (4, .ptr 6 0 0), (6, .ptr 11 0 0), (8, .ptr 12 0 0), (11, .glist 21 8 (rowsV zo.length 8 f)), (18, .val (.bool true)), (19, .val (.int .i64 ((0 : Nat) : Int)))]) (h' := [.perm, .perm, .perm, .perm, .perm, hoO [.list 1 16 (l.map (cnP 2 3 4)), .val (.int .i64 count)], hoO [.val (.slice none 0 0), .val (.int .i64 0)], .uniq, .uniq, .uniq, .uniq, hoO [.glist 7 16 (l.map (cnG 8 9 10)), .val (.int .i64 count)], hsO (hsRow 13 14 15 16 17 18 19 20 ⟨⟨zl, zc⟩, zo, zd⟩), .uniq, .uniq, .uniq, .uniq, .uniq, .uniq, .uniq, .uniq, .uniq, .dead]) (by kernel_rfl) (by kernel_rfl) ?_
    refine AD.loop (by simp only [spine, List.cons_append, List.nil_append, List.append_assoc]; rfl) (X := Nat) (fun i => slotsOf 224 [(2, .ptr 5 0 0), (4, .ptr 6 0 0), (6, .ptr 11 0 0), (8, .ptr 12 0 0), (11, .glist 21 8 (rowsV zo.length 8 f)), (18, .val (.bool true)), (19, .val (.int .i64 i))]) (fun i => i ≤ zo.length) (fun i => zo.length - i) 0 (Nat.zero_le _) fun E i hi hE => ?_
    have hlen : (((rowsV zo.length 8 f).length : Nat) : Int) = zo.length := by rw [rowsV_len]
    have w := IntWalk.i64_in ((i : Int) + 1) (by have := hL.out; dsimp only at this; omega)
    by_cases hlt : i < zo.length
    · obtain ⟨vp, vn, vc, h7⟩ := hsl i hlt
      have hrow : (rowsV zo.length 8 f)[(i : Int).toNat]? = some [.val (f i 0), .val (f i 1), .val (f i 2), .val (f i 3), .val (f i 4), .val (f i 5), .val (f i 6), .val (.slice vp vn vc)] := by
        rw [show (i : Int).toNat = i by omega, rowsV_at hlt, ← h7]; rfl
      refine qADs.go mixed fun B' hB' => ?_
      ((conv => whnf); (repeat' ((first | (with_reducible first | refine qif_n ?_ | refine qif_t ‹_› ?_ | refine qif_f ‹_› ?_) | ((with_reducible refine qif_t ?_ ?_); focus decide) | ((with_reducible refine qif_f ?_ ?_); focus decide) | (with_reducible refine And.intro (orderOk_i ?ho) ?_; (case ho => kernel_rfl)) | ((with_reducible refine qif_t ?_ ?_); focus (simp [hlt, hlen]; done)) | ((with_reducible refine qif_f ?_ ?_); focus (simp [hlt, hlen]; done)) | (with_reducible first | refine qif_i (fun _ => ?_) (fun _ => ?_) | refine frcVs_i ?_ | refine frcRs_i ?_)) <;> (conv => whnf))))
      refine ⟨_, _, qConv.same, noPerm rfl, ?_⟩
      refine qADs.go mixed fun B' hB' => ?_
      ((conv => whnf); (repeat' ((first | (with_reducible first | refine qif_n ?_ | refine qif_t ‹_› ?_ | refine qif_f ‹_› ?_) | ((with_reducible refine qif_t ?_ ?_); focus decide) | ((with_reducible refine qif_f ?_ ?_); focus decide) | (with_reducible refine And.intro (orderOk_i ?ho) ?_; (case ho => kernel_rfl)) | ((with_reducible refine qif_t ?_ ?_); focus (simp [hlt, hlen]; done)) | ((with_reducible refine qif_f ?_ ?_); focus (simp [hlt, hlen]; done)) | (with_reducible first | refine qif_i (fun _ => ?_) (fun _ => ?_) | refine frcVs_i ?_ | refine frcRs_i ?_)) <;> (conv => whnf))))
      refine ⟨_, _, qConv.same, noPerm rfl, ?_⟩
      refine qADs.block (by simp only [spine, List.cons_append, List.nil_append, List.append_assoc]; rfl) ?_
      refine qADs.spoil (split_at (n := 6) (by simp only [List.take_succ_cons, List.take_zero]; rfl) (by simp only [List.drop_succ_cons, List.drop_zero]; rfl)) rfl rfl (fun a w => Tryz.call44 a w) spB sd fun B' hB' => ?_
      ((conv => whnf); (repeat' ((first | (with_reducible first | refine qif_n ?_ | refine qif_t ‹_› ?_ | refine qif_f ‹_› ?_) | ((with_reducible refine qif_t ?_ ?_); focus decide) | ((with_reducible refine qif_f ?_ ?_); focus decide) | (with_reducible refine And.intro (orderOk_i ?ho) ?_; (case ho => kernel_rfl)) | ((with_reducible refine qif_t ?_ ?_); focus (simp [hlt, hlen]; done)) | ((with_reducible refine qif_f ?_ ?_); focus (simp [hlt, hlen]; done)) | (with_reducible first | refine qif_i (fun _ => ?_) (fun _ => ?_) | refine frcVs_i ?_ | refine frcRs_i ?_) | (refine qCase_i (idxG rfl rfl rfl rfl rfl rfl (by omega) hrow) ?_)) <;> (conv => whnf))))
      refine ⟨noPerm rfl, .slice vp vn vc, rfl, ⟨i, hlt, h7.symm⟩, ?_⟩
      (conv => whnf)
      refine qADs.nil ?_
      (conv => whnf)
      refine qADs.go mixed fun B' hB => ?_
      ((conv => whnf); (repeat' ((first | (with_reducible first | refine qif_n ?_ | refine qif_t ‹_› ?_ | refine qif_f ‹_› ?_) | ((with_reducible refine qif_t ?_ ?_); focus decide) | ((with_reducible refine qif_f ?_ ?_); focus decide) | (with_reducible refine And.intro (orderOk_i ?ho) ?_; (case ho => kernel_rfl)) | ((with_reducible refine qif_t ?_ ?_); focus (simp []; done)) | ((with_reducible refine qif_f ?_ ?_); focus (simp []; done)) | (with_reducible first | refine qif_i (fun _ => ?_) (fun _ => ?_) | refine frcVs_i ?_ | refine frcRs_i ?_)) <;> (conv => whnf))))
      refine ⟨slotsOf 224 [(2, .ptr 5 0 0), (4, .ptr 6 0 0), (6, .ptr 11 0 0), (8, .ptr 12 0 0), (11, .glist 21 8 (rowsV zo.length 8 f)), (18, .val (.bool true)), (19, .val (.int .i64 ((i + 1 : Nat) : Int)))], [.perm, .perm, .perm, .perm, .perm, hoO [.list 1 16 (l.map (cnP 2 3 4)), .val (.int .i64 count)], hoO [.val (.slice none 0 0), .val (.int .i64 0)], .uniq, .uniq, .uniq, .uniq, hoO [.glist 7 16 (l.map (cnG 8 9 10)), .val (.int .i64 count)], hsO (hsRow 13 14 15 16 17 18 19 20 ⟨⟨zl, zc⟩, zo, zd⟩), .uniq, .uniq, .uniq, .uniq, .uniq, .uniq, .uniq, .uniq, .uniq, .dead], ?_, noPerm rfl, qADs.nil ?_⟩
      · as_aux_lemma =>
          (refine qConv.of hB [(5, 5), (6, 6), (11, 11), (12, 12)] [(0, 0), (1, 1), (2, 2), (3, 3), (4, 4), (7, 7), (8, 8), (9, 9), (10, 10), (13, 13), (14, 14), (15, 15), (16, 16), (17, 17), (18, 18), (19, 19), (20, 20), (21, 21)] [] (by rfl) ?_; focus ((conv => whnf); (repeat (refine And.intro ?_ ?_; rotate_left; (conv => whnf))); exact trivial; all_goals (try exact andT)))
          all_goals (try (first | (simp [w]; done)))
          all_goals (try exact dt_AhHeD_ROWS)
          all_goals trace_state
      · subst hE
        exact ⟨rfl, i + 1, by omega, by omega, rfl⟩
    · have e : i = zo.length := by omega
      subst e
      refine qADs.go mixed fun B' hB' => ?_
      ((conv => whnf); (repeat' ((first | (with_reducible first | refine qif_n ?_ | refine qif_t ‹_› ?_ | refine qif_f ‹_› ?_) | ((with_reducible refine qif_t ?_ ?_); focus decide) | ((with_reducible refine qif_f ?_ ?_); focus decide) | (with_reducible refine And.intro (orderOk_i ?ho) ?_; (case ho => kernel_rfl)) | ((with_reducible refine qif_t ?_ ?_); focus (simp [hlt, hlen]; done)) | ((with_reducible refine qif_f ?_ ?_); focus (simp [hlt, hlen]; done)) | (with_reducible first | refine qif_i (fun _ => ?_) (fun _ => ?_) | refine frcVs_i ?_ | refine frcRs_i ?_)) <;> (conv => whnf))))
      refine ⟨_, _, qConv.same, noPerm rfl, ?_⟩
      refine qADs.go mixed fun B' hB' => ?_
      ((conv => whnf); (repeat' ((first | (with_reducible first | refine qif_n ?_ | refine qif_t ‹_› ?_ | refine qif_f ‹_› ?_) | ((with_reducible refine qif_t ?_ ?_); focus decide) | ((with_reducible refine qif_f ?_ ?_); focus decide) | (with_reducible refine And.intro (orderOk_i ?ho) ?_; (case ho => kernel_rfl)) | ((with_reducible refine qif_t ?_ ?_); focus (simp [hlt, hlen]; done)) | ((with_reducible refine qif_f ?_ ?_); focus (simp [hlt, hlen]; done)) | (with_reducible first | refine qif_i (fun _ => ?_) (fun _ => ?_) | refine frcVs_i ?_ | refine frcRs_i ?_)) <;> (conv => whnf))))
      refine ⟨noPerm rfl, ?_⟩
      subst hE
      (conv => whnf)
      refine ⟨(), trivial, ?_⟩
      as_aux_lemma =>
        (refine qConv.of hB [(5, 5), (6, 6), (11, 11), (12, 12)] [(0, 0), (1, 1), (2, 2), (3, 3), (4, 4), (7, 7), (8, 8), (9, 9), (10, 10), (13, 13), (14, 14), (15, 15), (16, 16), (17, 17), (18, 18), (19, 19), (20, 20), (21, 21)] [] (by rfl) ?_; focus ((conv => whnf); (repeat (refine And.intro ?_ ?_; rotate_left; (conv => whnf))); exact trivial; all_goals (try exact andT)))
        all_goals (try exact dt_AhHeD_ROWS)
        all_goals trace_state
  rintro ⟨⟩ -
  (try dsimp only)
  refine qAWs.fin mixed (by simp only [chain]; rfl) ?_
  ((conv => whnf); (repeat' ((first | (with_reducible first | refine qif_n ?_ | refine qif_t ‹_› ?_ | refine qif_f ‹_› ?_) | ((with_reducible refine qif_t ?_ ?_); focus decide) | ((with_reducible refine qif_f ?_ ?_); focus decide) | (with_reducible refine And.intro (orderOk_i ?ho) ?_; (case ho => kernel_rfl)) | ((with_reducible refine qif_t ?_ ?_); focus (simp []; done)) | ((with_reducible refine qif_f ?_ ?_); focus (simp []; done)) | (with_reducible first | refine qif_i (fun _ => ?_) (fun _ => ?_) | refine frcVs_i ?_ | refine frcRs_i ?_) | (((with_reducible refine qCall.reads (cE) [(0, 0), (0, 1), (0, 2), (0, 3), (0, 4), (0, 7), (0, 8), (0, 9), (0, 10)] [] ?hk ?_); (case hk => rfl); (conv => whnf); (repeat (refine And.intro ?_ ?_; (focus (first | exact sideT | (first | exact cns_bor rfl rfl rfl _ rfl | exact hsRow_r rfl rfl rfl (cns_pp rfl rfl rfl _) (sns_rr rfl _) (hds_rr rfl _)))); (conv => whnf))); (fail_if_success (with_reducible first | refine And.intro (eqv_i ?_) ?_ | refine And.intro (ren_i ?_) ?_))))) <;> (conv => whnf))))
  as_aux_lemma =>
    (refine qConv.of hB [] [(0, 0), (1, 1), (2, 2), (3, 3), (4, 4), (13, 5), (14, 6), (15, 7), (16, 8)] [] (by rfl) ?_; focus ((conv => whnf); (repeat (refine And.intro ?_ ?_; rotate_left; (conv => whnf))); exact trivial; all_goals (try exact andT)))
    all_goals (try exact dt_AhHeD_ROWS)
    all_goals trace_state
end Go.Proofs.YtceohcbokbalhaaGreat
